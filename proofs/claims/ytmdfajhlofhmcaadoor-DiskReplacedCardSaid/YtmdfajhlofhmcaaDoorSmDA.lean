/-
  A layer of one's own: texts D1,D2,D40.
-/
import Derived.Test.YtmdfajhlofhmcaaDoorSmTG
import Derived.Test.YtmdfajhlofhmcaaDoorSmLJ
set_option linter.unusedVariables false
set_option linter.unusedSimpArgs false
namespace Sm
open Go
/-- A name: a directory, or a file (its number). -/
structure Nm where
  path : List UInt8
  dir : Bool
  id : Nat
  deriving DecidableEq, Inhabited
/-- A file: its bytes, and how many are safe. -/
structure Fl where
  b : List UInt8
  safe : Nat
  deriving DecidableEq, Inhabited
/-- A change of names: one that came, one that went, one that has another path (where another one may have been). -/
inductive Chg where
  | mk (x : Nm)
  | rm (x : Nm)
  | mv (x : Nm) (y : Option Nm) (b : List UInt8)
  deriving DecidableEq, Inhabited
def Chg.gone : Chg → List Nm
  | .mk _ => []
  | .rm x => [x]
  | .mv x none _ => [x]
  | .mv x (some y) _ => [x, y]
def Chg.came : Chg → List Nm
  | .mk x => [x]
  | .rm _ => []
  | .mv x _ b => [⟨b, false, x.id⟩]
/-- Names with one more, in its place. -/
def laidN (l : List Nm) (x : Nm) : List Nm := l.takeWhile (fun n => lessP n.path x.path) ++ x :: l.dropWhile (fun n => lessP n.path x.path)
def goneN (c : Chg) (n : Nm) : Bool := c.gone.any fun g => g.path == n.path
def appC (l : List Nm) (c : Chg) : List Nm := c.came.foldl laidN (l.filter fun n => !goneN c n)
def appAll (l : List Nm) (cs : List Chg) : List Nm := cs.foldl appC l
/-- Names rise. -/
def SN (l : List Nm) : Prop := l.Pairwise fun x y => lessP x.path y.path = true
def Chg.fit : Chg → Prop
  | .mv _ (some y) b => y.path = b
  | _ => True
def okC (l : List Nm) (c : Chg) : Prop := (∀ z ∈ c.came, ∀ n ∈ l, n.path = z.path → goneN c n = true) ∧ c.fit
def getN (l : List Nm) (p : List UInt8) : Option Nm := l.find? (fun n => n.path == p)

theorem SN.nd {l : List Nm} (h : SN l) : (l.map Nm.path).Nodup := by
  rw [List.Nodup, List.pairwise_map]
  refine h.imp fun {x y} hxy he => ?_
  rw [he, lessP_irr] at hxy; cases hxy
theorem SN.filter {l : List Nm} (h : SN l) (p : Nm → Bool) : SN (l.filter p) := List.Pairwise.sublist List.filter_sublist h
theorem nd_eq {l : List Nm} (h : (l.map Nm.path).Nodup) {x y : Nm} (hx : x ∈ l) (hy : y ∈ l) (he : x.path = y.path) : x = y := by
  obtain ⟨i, hi, rfl⟩ := List.getElem_of_mem hx
  obtain ⟨j, hj, rfl⟩ := List.getElem_of_mem hy
  have := nodup_inj h (i := i) (j := j) (by simpa using hi) (by simpa using hj) (by simpa using he)
  subst this; rfl
theorem mem_tw {α : Type} {p : α → Bool} : ∀ {l : List α} {x : α}, x ∈ l.takeWhile p → p x = true
  | [], x, h => by simp at h
  | a :: l, x, h => by
    rw [List.takeWhile_cons] at h
    split at h
    · rename_i ha
      rcases List.mem_cons.mp h with rfl | h
      · exact ha
      · exact mem_tw h
    · simp at h
theorem laidN_mem {l : List Nm} {x n : Nm} : n ∈ laidN l x ↔ n = x ∨ n ∈ l := by
  unfold laidN
  rw [List.mem_append, List.mem_cons]
  conv => rhs; rw [← List.takeWhile_append_dropWhile (p := fun n => lessP n.path x.path) (l := l), List.mem_append]
  constructor
  · rintro (h | h | h)
    · exact .inr (.inl h)
    · exact .inl h
    · exact .inr (.inr h)
  · rintro (h | h | h)
    · exact .inr (.inl h)
    · exact .inl h
    · exact .inr (.inr h)
theorem laidN_len (l : List Nm) (x : Nm) : (laidN l x).length = l.length + 1 := by
  have h := congrArg List.length (List.takeWhile_append_dropWhile (p := fun n => lessP n.path x.path) (l := l))
  unfold laidN
  simp only [List.length_append, List.length_cons] at h ⊢
  omega
theorem drop_ge {l : List Nm} (h : SN l) (x : Nm) : ∀ n ∈ l.dropWhile (fun n => lessP n.path x.path), lessP n.path x.path = false := by
  induction l with
  | nil => simp
  | cons a l ih =>
    intro n hn
    rw [List.dropWhile_cons] at hn
    split at hn
    · exact ih (List.pairwise_cons.mp h).2 n hn
    · rename_i ha
      rcases List.mem_cons.mp hn with rfl | hn
      · simpa using ha
      · have h1 := (List.pairwise_cons.mp h).1 n hn
        cases hc : lessP n.path x.path
        · rfl
        · exact absurd (lessP_trans h1 hc) ha
theorem laidN_sn {l : List Nm} (h : SN l) {x : Nm} (hx : ∀ n ∈ l, n.path ≠ x.path) : SN (laidN l x) := by
  have h0 := h
  rw [SN, ← List.takeWhile_append_dropWhile (p := fun n => lessP n.path x.path) (l := l), List.pairwise_append] at h0
  obtain ⟨h1, h2, h3⟩ := h0
  unfold laidN
  rw [SN, List.pairwise_append, List.pairwise_cons]
  have hd : ∀ n ∈ l.dropWhile (fun n => lessP n.path x.path), lessP x.path n.path = true := fun n hn => by
    refine lessP_tot (drop_ge h x n hn) ?_
    refine hx n ?_
    rw [← List.takeWhile_append_dropWhile (p := fun n => lessP n.path x.path) (l := l), List.mem_append]
    exact .inr hn
  refine ⟨h1, ⟨hd, h2⟩, fun a ha b hb => ?_⟩
  have hax := mem_tw ha
  rcases List.mem_cons.mp hb with rfl | hb
  · exact hax
  · exact h3 a ha b hb
theorem came_one (c : Chg) : c.came = [] ∨ ∃ z, c.came = [z] := by
  cases c with
  | mk x => exact .inr ⟨_, rfl⟩
  | rm x => exact .inl rfl
  | mv x y b => exact .inr ⟨_, rfl⟩
theorem appC_mem {l : List Nm} {c : Chg} {n : Nm} : n ∈ appC l c ↔ n ∈ c.came ∨ (n ∈ l ∧ goneN c n = false) := by
  unfold appC
  rcases came_one c with h | ⟨z, h⟩
  · rw [h]; simp
  · rw [h]
    simp only [List.foldl_cons, List.foldl_nil, laidN_mem, List.mem_filter, Bool.not_eq_true', List.mem_cons, List.not_mem_nil, or_false]
theorem appC_sn {l : List Nm} {c : Chg} (h : SN l) (hc : okC l c) : SN (appC l c) := by
  unfold appC
  rcases came_one c with h1 | ⟨z, h1⟩
  · rw [h1]; exact h.filter _
  · rw [h1]
    refine laidN_sn (h.filter _) fun n hn he => ?_
    rw [List.mem_filter] at hn
    have := hc.1 z (by rw [h1]; simp) n hn.1 he
    simp [this] at hn
theorem appC_len (l : List Nm) (c : Chg) : (appC l c).length ≤ l.length + 1 := by
  unfold appC
  have hf := List.length_filter_le (fun n => !goneN c n) l
  rcases came_one c with h1 | ⟨z, h1⟩
  · rw [h1, List.foldl_nil]; omega
  · rw [h1, List.foldl_cons, List.foldl_nil, laidN_len]; omega
theorem appAll_len (cs : List Chg) : ∀ l : List Nm, (appAll l cs).length ≤ l.length + cs.length := by
  induction cs with
  | nil => intro l; exact Nat.le_refl _
  | cons c cs ih =>
    intro l
    have h1 := ih (appC l c)
    have h2 := appC_len l c
    rw [appAll, List.foldl_cons]
    rw [appAll] at h1
    simp only [List.length_cons]; omega
theorem appAll_snoc (l : List Nm) (cs : List Chg) (c : Chg) : appAll l (cs ++ [c]) = appC (appAll l cs) c := by
  rw [appAll, List.foldl_append]; rfl
/-- Each change may be where it comes. -/
def chain : List Nm → List Chg → Prop
  | l, [] => True
  | l, c :: cs => okC l c ∧ chain (appC l c) cs
theorem chain_sn : ∀ {cs : List Chg} {l : List Nm}, SN l → chain l cs → SN (appAll l cs)
  | [], l, h, _ => h
  | c :: cs, l, h, hc => by
    rw [appAll, List.foldl_cons]
    exact chain_sn (appC_sn h hc.1) hc.2
theorem chain_snoc : ∀ {cs : List Chg} {l : List Nm} {c : Chg}, chain l cs → okC (appAll l cs) c → chain l (cs ++ [c])
  | [], l, c, _, h => ⟨h, trivial⟩
  | d :: cs, l, c, hc, h => ⟨hc.1, chain_snoc hc.2 h⟩
theorem chain_take : ∀ {cs : List Chg} {l : List Nm} (k : Nat), chain l cs → chain l (cs.take k)
  | [], l, k, h => by rw [List.take_nil]; trivial
  | d :: cs, l, 0, h => trivial
  | d :: cs, l, k + 1, h => ⟨h.1, chain_take k h.2⟩

theorem getN_mem {l : List Nm} {p : List UInt8} {x : Nm} (h : getN l p = some x) : x ∈ l ∧ x.path = p :=
  ⟨List.mem_of_find?_eq_some h, by simpa using List.find?_some h⟩
theorem getN_none {l : List Nm} {p : List UInt8} (h : getN l p = none) : ∀ n ∈ l, n.path ≠ p := fun n hn => by
  simpa using List.find?_eq_none.mp h n hn
theorem getN_of {l : List Nm} (hn : (l.map Nm.path).Nodup) {x : Nm} (hx : x ∈ l) : getN l x.path = some x := by
  cases h : getN l x.path with
  | none => exact absurd rfl (getN_none h x hx)
  | some y =>
    obtain ⟨h1, h2⟩ := getN_mem h
    rw [nd_eq hn h1 hx h2]
theorem getN_perm {l m : List Nm} (hp : m.Perm l) (hn : (l.map Nm.path).Nodup) (p : List UInt8) : getN m p = getN l p := by
  have hm : (m.map Nm.path).Nodup := (hp.map _).nodup_iff.mpr hn
  cases h : getN l p with
  | none =>
    cases h2 : getN m p with
    | none => rfl
    | some y =>
      obtain ⟨h3, h4⟩ := getN_mem h2
      exact absurd h4 (getN_none h y (hp.mem_iff.mp h3))
  | some y =>
    obtain ⟨h3, rfl⟩ := getN_mem h
    exact getN_of hm (hp.mem_iff.mpr h3)
theorem nd_of_map {l : List Nm} (h : (l.map Nm.path).Nodup) : l.Nodup := by
  rw [List.Nodup, List.pairwise_map] at h
  exact h.imp fun hxy he => hxy (by rw [he])
/-- Two lists of the same names, as maps have them. -/
theorem perm_of {a b : List Nm} (ha : (a.map Nm.path).Nodup) (hb : (b.map Nm.path).Nodup) (h : ∀ n, n ∈ a ↔ n ∈ b) : a.Perm b :=
  (List.perm_ext_iff_of_nodup (nd_of_map ha) (nd_of_map hb)).mpr h
theorem mputN_mem {m : List Nm} (h : (m.map Nm.path).Nodup) (x n : Nm) : n ∈ mput Nm.path m x ↔ n = x ∨ (n ∈ m ∧ n.path ≠ x.path) := by
  unfold mput
  split
  · rename_i hany
    obtain ⟨y, hy, hy2⟩ := List.any_eq_true.mp hany
    have hy3 : y.path = x.path := by simpa using hy2
    rw [List.mem_map]
    constructor
    · rintro ⟨a, ha, rfl⟩
      split
      · exact .inl rfl
      · rename_i hne; exact .inr ⟨ha, by simpa using hne⟩
    · rintro (rfl | ⟨h1, h2⟩)
      · exact ⟨y, hy, if_pos hy2⟩
      · exact ⟨n, h1, if_neg (by simpa using h2)⟩
  · rename_i hany
    rw [List.mem_append, List.mem_singleton]
    constructor
    · rintro (h1 | h1)
      · refine .inr ⟨h1, fun he => hany (List.any_eq_true.mpr ⟨n, h1, by simpa using he⟩)⟩
      · exact .inl h1
    · rintro (h1 | h1)
      · exact .inr h1
      · exact .inl h1.1
theorem filt_nd {m : List Nm} (h : (m.map Nm.path).Nodup) (p : Nm → Bool) : ((m.filter p).map Nm.path).Nodup := List.Nodup.sublist (List.filter_sublist.map _) h
/-- A change, as the program has it: paths, and what they are then. -/
def Chg.ps : Chg → List (List UInt8 × Option Nm)
  | .mk x => [(x.path, some x)]
  | .rm x => [(x.path, none)]
  | .mv x _ b => [(x.path, none), (b, some ⟨b, false, x.id⟩)]
def apM (m : List Nm) (q : List UInt8 × Option Nm) : List Nm := match q.2 with
  | none => m.filter fun n => !(n.path == q.1)
  | some x => mput Nm.path m x
theorem apM_nd {m : List Nm} (h : (m.map Nm.path).Nodup) (q : List UInt8 × Option Nm) : ((apM m q).map Nm.path).Nodup := by
  obtain ⟨p, o⟩ := q
  cases o with
  | none => exact filt_nd h _
  | some x => exact mput_keys h
theorem apM_perm {m l : List Nm} {c : Chg} (hp : m.Perm l) (hs : SN l) (hc : okC l c) : (c.ps.foldl apM m).Perm (appC l c) := by
  have hm : (m.map Nm.path).Nodup := (hp.map _).nodup_iff.mpr hs.nd
  have hn : ∀ qs : List (List UInt8 × Option Nm), ∀ m, (m.map Nm.path).Nodup → ((qs.foldl apM m).map Nm.path).Nodup := by
    intro qs
    induction qs with
    | nil => intro m h; exact h
    | cons q qs ih => intro m h; rw [List.foldl_cons]; exact ih _ (apM_nd h q)
  refine perm_of (hn _ _ hm) (appC_sn hs hc).nd fun n => ?_
  rw [appC_mem]
  cases c with
  | mk x =>
    simp only [Chg.ps, List.foldl_cons, List.foldl_nil, apM, mputN_mem hm, Chg.came, List.mem_cons, List.not_mem_nil, or_false, goneN, Chg.gone, List.any_nil, and_true, hp.mem_iff]
    constructor
    · rintro (h | h)
      · exact .inl h
      · exact .inr h.1
    · rintro (h | h)
      · exact .inl h
      · refine .inr ⟨h, fun he => ?_⟩
        have := hc.1 x (by simp [Chg.came]) n h he
        simp [goneN, Chg.gone] at this
  | rm x =>
    simp only [Chg.ps, List.foldl_cons, List.foldl_nil, apM, Chg.came, List.not_mem_nil, false_or, goneN, Chg.gone, List.any_cons, List.any_nil, Bool.or_false, List.mem_filter, hp.mem_iff]
    constructor
    · rintro ⟨h1, h2⟩
      refine ⟨h1, ?_⟩
      have h3 : ¬ n.path = x.path := by simpa using h2
      simpa using fun he => h3 he.symm
    · rintro ⟨h1, h2⟩
      refine ⟨h1, ?_⟩
      have h3 : ¬ x.path = n.path := by simpa using h2
      simpa using fun he => h3 he.symm
  | mv x y b =>
    have hm2 := apM_nd hm (x.path, none)
    have hg : ∀ n ∈ l, (goneN (.mv x y b) n = false ↔ n.path ≠ x.path ∧ n.path ≠ b) := by
      intro n hn
      cases y with
      | none =>
        simp only [goneN, Chg.gone, List.any_cons, List.any_nil, Bool.or_false]
        constructor
        · intro h
          have h3 : ¬ x.path = n.path := by simpa using h
          refine ⟨fun he => h3 he.symm, fun he => ?_⟩
          have := hc.1 ⟨b, false, x.id⟩ (by simp [Chg.came]) n hn he
          simp only [goneN, Chg.gone, List.any_cons, List.any_nil, Bool.or_false] at this
          rw [this] at h; cases h
        · rintro ⟨h1, h2⟩
          simpa using fun he => h1 he.symm
      | some y =>
        have hy : y.path = b := hc.2
        simp only [goneN, Chg.gone, List.any_cons, List.any_nil, Bool.or_false, hy]
        constructor
        · intro h
          have h3 : ¬ x.path = n.path ∧ ¬ b = n.path := by simpa using h
          exact ⟨fun he => h3.1 he.symm, fun he => h3.2 he.symm⟩
        · rintro ⟨h1, h2⟩
          simpa using ⟨fun he => h1 he.symm, fun he => h2 he.symm⟩
    simp only [Chg.ps, List.foldl_cons, List.foldl_nil]
    rw [show apM (apM m (x.path, none)) (b, some ⟨b, false, x.id⟩) = mput Nm.path (apM m (x.path, none)) ⟨b, false, x.id⟩ from rfl, mputN_mem hm2]
    simp only [apM, List.mem_filter, hp.mem_iff, Chg.came, List.mem_cons, List.not_mem_nil, or_false]
    constructor
    · rintro (h | ⟨⟨h1, h2⟩, h3⟩)
      · exact .inl h
      · exact .inr ⟨h1, (hg n h1).mpr ⟨by simpa using h2, h3⟩⟩
    · rintro (h | ⟨h1, h2⟩)
      · exact .inl h
      · obtain ⟨h3, h4⟩ := (hg n h1).mp h2
        exact .inr ⟨⟨h1, by simpa using h3⟩, h4⟩
/-- What a disk is. -/
structure Dk where
  room : Int
  sure : List Nm
  loose : List Chg
  f : List Fl
  down : Bool
  ops : Nat
  fails : Int
  done : Bool
  wrong : Int
  deriving Inhabited
def Dk.now (d : Dk) : List Nm := appAll d.sure d.loose
def Dk.used (d : Dk) : Nat := (d.now.map fun n => if n.dir then 0 else (d.f.getD n.id default).b.length).sum
def newD (room : Int) : Dk := ⟨max 0 (min room 16777216), [], [], [], false, 0, -1, false, -1⟩
structure Dk.WF (d : Dk) (n m : Nat) : Prop where
  sn : SN d.sure
  ch : chain d.sure d.loose
  len : d.sure.length + d.loose.length ≤ n
  fl : d.f.length ≤ n
  op : d.ops ≤ n
  ids : ∀ x ∈ d.sure, x.id < n ∧ (x.dir = false → x.id < d.f.length) ∧ chkP x.path = 0
  idc : ∀ c ∈ d.loose, (∀ x ∈ c.came, x.id < n ∧ (x.dir = false → x.id < d.f.length) ∧ chkP x.path = 0) ∧ ∀ x ∈ c.gone, x.id < n ∧ chkP x.path = 0
  sz : ∀ x ∈ d.f, x.b.length ≤ m ∧ x.safe ≤ x.b.length
  rm : 0 ≤ d.room ∧ d.room ≤ 16777216
  fa : -1 ≤ d.fails ∧ d.fails ≤ 9223372036854775807
  wr : -1 ≤ d.wrong ∧ d.wrong ≤ 9223372036854775807
theorem Dk.WF.now_sn {d : Dk} {n m : Nat} (h : d.WF n m) : SN d.now := chain_sn h.sn h.ch
theorem appAll_ok {P : Nm → Prop} : ∀ {cs : List Chg} {l : List Nm}, (∀ x ∈ l, P x) → (∀ c ∈ cs, ∀ x ∈ c.came, P x) → ∀ x ∈ appAll l cs, P x
  | [], l, h, _ => h
  | c :: cs, l, h, hc => by
    rw [appAll, List.foldl_cons]
    refine appAll_ok (fun x hx => ?_) (fun d hd => hc d (List.mem_cons_of_mem _ hd))
    rcases appC_mem.mp hx with h1 | h1
    · exact hc c (by simp) x h1
    · exact h x h1.1
theorem Dk.WF.now_ok {d : Dk} {n m : Nat} (h : d.WF n m) : ∀ x ∈ d.now, x.id < n ∧ (x.dir = false → x.id < d.f.length) ∧ chkP x.path = 0 :=
  appAll_ok h.ids fun c hc => (h.idc c hc).1
theorem Dk.WF.now_len {d : Dk} {n m : Nat} (h : d.WF n m) : d.now.length ≤ n := Nat.le_trans (appAll_len _ _) h.len
/-- The errors of a path's parent. -/
def parD (l : List Nm) (p : List UInt8) : Int := if parL p = [] then 0 else match getN l (parL p) with
  | none => 8
  | some x => if x.dir then 0 else 9
/-- A path's file, with errors. -/
def fileD (l : List Nm) (p : List UInt8) : Int := match getN l p with
  | none => 8
  | some x => if x.dir then 9 else 0
def idD (l : List Nm) (p : List UInt8) : Nat := match getN l p with
  | none => 0
  | some x => x.id
/-- A call that found no error. -/
def tickD (n : Int) : Int := if n = -1 then -1 else n - 1
def Dk.step (d next : Dk) : Dk × Int :=
  if d.fails = 0 then
    (if d.done then { next with ops := d.ops + 1, fails := tickD d.fails, wrong := tickD d.wrong, down := true } else { d with ops := d.ops + 1, fails := tickD d.fails, wrong := tickD d.wrong, down := true }, 11)
  else if d.wrong = 0 then ({ d with ops := d.ops + 1, fails := tickD d.fails, wrong := tickD d.wrong }, 12)
  else ({ next with ops := d.ops + 1, fails := tickD d.fails, wrong := tickD d.wrong }, 0)
def Dk.chg (d : Dk) (c : Chg) : Dk := { d with loose := d.loose ++ [c] }
def Dk.asked (d : Dk) (p : List UInt8) : Int := if d.down then 11 else chkP p
def Dk.put (d : Dk) (p : List UInt8) (dir : Bool) : Dk × Int :=
  if d.asked p ≠ 0 then (d, d.asked p) else if parD d.now p ≠ 0 then (d, parD d.now p) else if (getN d.now p).isSome then (d, 7)
  else d.step (Dk.chg { d with f := if dir then d.f else d.f ++ [⟨[], 0⟩] } (.mk ⟨p, dir, if dir then 0 else d.f.length⟩))
/-- A call on a file that is there: what it finds, and what the file is then. -/
def Dk.with' (d : Dk) (p : List UInt8) (may : Fl → Int) (g : Fl → Fl) : Dk × Int :=
  if d.asked p ≠ 0 then (d, d.asked p) else if fileD d.now p ≠ 0 then (d, fileD d.now p) else
  if may (d.f.getD (idD d.now p) default) ≠ 0 then (d, may (d.f.getD (idD d.now p) default))
  else d.step { d with f := d.f.set (idD d.now p) (g (d.f.getD (idD d.now p) default)) }
def Dk.append (d : Dk) (p b : List UInt8) : Dk × Int := d.with' p (fun _ => if d.room - d.used < b.length then 10 else 0) fun f => ⟨f.b ++ b, f.safe⟩
def Dk.cut (d : Dk) (p : List UInt8) (n : Int) : Dk × Int := d.with' p (fun f => if n < 0 ∨ n > f.b.length then 13 else 0) fun f => ⟨f.b.take n.toNat, min n.toNat f.safe⟩
def Dk.sync (d : Dk) (p : List UInt8) : Dk × Int := d.with' p (fun _ => 0) fun f => ⟨f.b, f.b.length⟩
def Dk.remove (d : Dk) (p : List UInt8) : Dk × Int :=
  if d.asked p ≠ 0 then (d, d.asked p) else match getN d.now p with
  | none => (d, 8)
  | some x => if d.now.any (fun n => parL n.path == p) then (d, 10) else d.step (d.chg (.rm x))
def Dk.rename (d : Dk) (a b : List UInt8) : Dk × Int :=
  if d.asked a ≠ 0 then (d, d.asked a) else if chkP b ≠ 0 then (d, chkP b) else if fileD d.now a ≠ 0 then (d, fileD d.now a) else if parD d.now b ≠ 0 then (d, parD d.now b)
  else if (getN d.now b).any (·.dir) then (d, 9) else match getN d.now a with
  | none => (d, 0)
  | some x => d.step (d.chg (.mv x (getN d.now b) b))
def Dk.syncDirs (d : Dk) : Dk × Int := if d.down then (d, 11) else d.step { d with sure := d.now, loose := [] }
def Dk.fail (d : Dk) (after : Int) (done : Bool) : Dk × Int := if d.down then (d, 11) else if after < 0 then (d, 2) else ({ d with fails := after, done := done }, 0)
def Dk.fault (d : Dk) (after : Int) : Dk × Int := if d.down then (d, 11) else if after < 0 then (d, 2) else ({ d with wrong := after }, 0)
/-- What a crash leaves of files: names in order, what is kept of the bytes that are not safe. -/
def crashF : List Nm → List Fl → List UInt8 → List Fl
  | [], f, _ => f
  | n :: l, f, keep =>
    if n.dir then crashF l f keep
    else
      let x := f.getD n.id default
      if x.safe < x.b.length ∧ keep ≠ [] then
        let s := x.safe + (keep.headD 0).toNat % (x.b.length - x.safe + 1)
        crashF l (f.set n.id ⟨x.b.take s, s⟩) keep.tail
      else crashF l (f.set n.id ⟨x.b.take x.safe, x.safe⟩) keep
def Dk.crash (d : Dk) (count : Int) (keep : List UInt8) : Dk :=
  let l := appAll d.sure (d.loose.take (max 0 (min count d.loose.length)).toNat)
  { d with sure := l, loose := [], f := crashF l d.f keep, down := false, fails := -1, wrong := -1, done := false }
def Dk.read (d : Dk) (p : List UInt8) : List UInt8 × Int := if d.down then ([], 11) else if fileD d.now p ≠ 0 then ([], fileD d.now p) else ((d.f.getD (idD d.now p) default).b, 0)
def Dk.safe (d : Dk) (p : List UInt8) : Nat := if fileD d.now p ≠ 0 then 0 else (d.f.getD (idD d.now p) default).safe
def Dk.list (d : Dk) : List Ent := if d.down then [] else d.now.map fun n => ⟨n.path, n.dir, if n.dir then [] else (d.f.getD n.id default).b⟩
end Sm

set_option linter.unusedVariables false
set_option linter.unusedSimpArgs false
namespace Sm
open Go
theorem Dk.WF.mono {d : Dk} {n m n' m' : Nat} (h : d.WF n m) (hn : n ≤ n') (hm : m ≤ m') : d.WF n' m' where
  sn := h.sn
  ch := h.ch
  len := Nat.le_trans h.len hn
  fl := Nat.le_trans h.fl hn
  op := Nat.le_trans h.op hn
  ids := fun x hx => ⟨Nat.lt_of_lt_of_le (h.ids x hx).1 hn, (h.ids x hx).2⟩
  idc := fun c hc => ⟨fun x hx => ⟨Nat.lt_of_lt_of_le ((h.idc c hc).1 x hx).1 hn, ((h.idc c hc).1 x hx).2⟩, fun x hx => ⟨Nat.lt_of_lt_of_le ((h.idc c hc).2 x hx).1 hn, ((h.idc c hc).2 x hx).2⟩⟩
  sz := fun x hx => ⟨Nat.le_trans (h.sz x hx).1 hm, (h.sz x hx).2⟩
  rm := h.rm
  fa := h.fa
  wr := h.wr
theorem tickD_ok {n : Int} (h : -1 ≤ n ∧ n ≤ 9223372036854775807) : -1 ≤ tickD n ∧ tickD n ≤ 9223372036854775807 := by
  unfold tickD; split <;> omega
/-- All but the counters. -/
theorem Dk.WF.ctr {d : Dk} {n m : Nat} (h : d.WF n m) (ops : Nat) (fails wrong : Int) (down done : Bool) (ho : ops ≤ n) (hf : -1 ≤ fails ∧ fails ≤ 9223372036854775807) (hw : -1 ≤ wrong ∧ wrong ≤ 9223372036854775807) :
    Dk.WF ⟨d.room, d.sure, d.loose, d.f, down, ops, fails, done, wrong⟩ n m := ⟨h.sn, h.ch, h.len, h.fl, ho, h.ids, h.idc, h.sz, h.rm, hf, hw⟩
theorem step_wf {d next : Dk} {n m m' : Nat} (h : d.WF n m) (h2 : next.WF (n + 1) m') (hm : m ≤ m') : (d.step next).1.WF (n + 1) m' := by
  have ho : d.ops + 1 ≤ n + 1 := Nat.succ_le_succ h.op
  have h0 := h.mono (Nat.le_succ n) hm
  unfold Dk.step
  split
  · split
    · exact h2.ctr _ _ _ _ _ ho (tickD_ok h.fa) (tickD_ok h.wr)
    · exact h0.ctr _ _ _ _ _ ho (tickD_ok h.fa) (tickD_ok h.wr)
  · split
    · exact h0.ctr _ _ _ _ _ ho (tickD_ok h.fa) (tickD_ok h.wr)
    · exact h2.ctr _ _ _ _ _ ho (tickD_ok h.fa) (tickD_ok h.wr)
theorem asked_ok {d : Dk} {p : List UInt8} (h : ¬ d.asked p ≠ 0) : d.down = false ∧ chkP p = 0 := by
  unfold Dk.asked at h
  cases hd : d.down
  · rw [hd] at h; exact ⟨rfl, by simpa using h⟩
  · rw [hd] at h; simp at h
/-- One more change. -/
theorem chg_wf {d : Dk} {n m : Nat} (h : d.WF n m) {c : Chg} (hc : okC d.now c) (h1 : ∀ x ∈ c.came, x.id < n + 1 ∧ (x.dir = false → x.id < d.f.length) ∧ chkP x.path = 0) (h2 : ∀ x ∈ c.gone, x.id < n + 1 ∧ chkP x.path = 0) : (d.chg c).WF (n + 1) m := by
  have h0 := h.mono (Nat.le_succ n) (Nat.le_refl m)
  refine ⟨h0.sn, chain_snoc h0.ch hc, ?_, h0.fl, h0.op, h0.ids, fun e he => ?_, h0.sz, h0.rm, h0.fa, h0.wr⟩
  · have := h.len
    simp only [Dk.chg, List.length_append, List.length_cons, List.length_nil]; omega
  · rcases List.mem_append.mp he with he | he
    · exact h0.idc e he
    · rw [List.mem_singleton] at he; subst he; exact ⟨h1, h2⟩
theorem put_wf {d : Dk} {n m : Nat} (h : d.WF n m) (p : List UInt8) (dir : Bool) : (d.put p dir).1.WF (n + 1) m := by
  have h0 := h.mono (Nat.le_succ n) (Nat.le_refl m)
  unfold Dk.put
  split
  · exact h0
  rename_i ha
  split
  · exact h0
  split
  · exact h0
  rename_i hs
  have hnone : getN d.now p = none := by
    cases hg : getN d.now p with
    | none => rfl
    | some x => rw [hg] at hs; exact absurd rfl hs
  obtain ⟨_, hp⟩ := asked_ok ha
  refine step_wf h ?_ (Nat.le_refl m)
  cases dir with
  | true =>
    refine chg_wf h ⟨fun z hz n hn he => ?_, trivial⟩ (fun x hx => ?_) (by simp [Chg.gone])
    · simp only [Chg.came, List.mem_singleton] at hz; subst hz; exact absurd he (getN_none hnone n hn)
    · simp only [Chg.came, List.mem_singleton] at hx; subst hx; exact ⟨by simp, by simp, hp⟩
  | false =>
    have hf : Dk.WF { d with f := d.f ++ [⟨[], 0⟩] } (n + 1) m := by
      refine ⟨h0.sn, h0.ch, h0.len, by have := h.fl; simp; omega, h0.op, fun x hx => ?_, fun c hc => ?_, fun x hx => ?_, h0.rm, h0.fa, h0.wr⟩
      · obtain ⟨a1, a2, a3⟩ := h0.ids x hx
        exact ⟨a1, fun hd => by have := a2 hd; simp; omega, a3⟩
      · obtain ⟨b1, b2⟩ := h0.idc c hc
        refine ⟨fun x hx => ?_, b2⟩
        obtain ⟨a1, a2, a3⟩ := b1 x hx
        exact ⟨a1, fun hd => by have := a2 hd; simp; omega, a3⟩
      · rcases List.mem_append.mp hx with hx | hx
        · exact h0.sz x hx
        · rw [List.mem_singleton] at hx; subst hx; simp
    refine ⟨hf.sn, chain_snoc hf.ch ⟨fun z hz n hn he => ?_, trivial⟩, ?_, hf.fl, hf.op, hf.ids, fun e he => ?_, hf.sz, hf.rm, hf.fa, hf.wr⟩
    · simp only [Chg.came, List.mem_singleton] at hz; subst hz; exact absurd he (getN_none hnone n hn)
    · have := h.len
      simp only [Dk.chg, List.length_append, List.length_cons, List.length_nil]; omega
    · rcases List.mem_append.mp he with he | he
      · exact hf.idc e he
      · rw [List.mem_singleton] at he; subst he
        refine ⟨fun x hx => ?_, by simp [Chg.gone]⟩
        simp only [Chg.came, List.mem_singleton] at hx; subst hx
        have := h.fl
        refine ⟨by simp; omega, fun _ => by simp [Dk.chg], hp⟩
theorem fl_mem {d : Dk} {n m : Nat} (h : d.WF n m) (i : Nat) : (d.f.getD i default).b.length ≤ m ∧ (d.f.getD i default).safe ≤ (d.f.getD i default).b.length := by
  rw [List.getD_eq_getElem?_getD]
  cases hi : d.f[i]? with
  | none => exact ⟨Nat.zero_le _, Nat.zero_le _⟩
  | some x => exact h.sz x (List.mem_of_getElem? hi)
theorem with_wf {d : Dk} {n m m' : Nat} (h : d.WF n m) (hm : m ≤ m') (p : List UInt8) (may : Fl → Int) (g : Fl → Fl) (hg : ∀ x, x.b.length ≤ m → x.safe ≤ x.b.length → may x = 0 → (g x).b.length ≤ m' ∧ (g x).safe ≤ (g x).b.length) : (d.with' p may g).1.WF (n + 1) m' := by
  have h0 := h.mono (Nat.le_succ n) hm
  unfold Dk.with'
  split
  · exact h0
  split
  · exact h0
  split
  · exact h0
  rename_i hmay
  refine step_wf h ?_ hm
  refine ⟨h0.sn, h0.ch, h0.len, by simpa using h0.fl, h0.op, fun x hx => ?_, fun c hc => ?_, fun x hx => ?_, h0.rm, h0.fa, h0.wr⟩
  · simpa using h0.ids x hx
  · simpa using h0.idc c hc
  · obtain ⟨a1, a2⟩ := fl_mem h (idD d.now p)
    rcases List.mem_or_eq_of_mem_set hx with hx | rfl
    · exact h0.sz x hx
    · exact hg _ a1 a2 (by simpa using hmay)
theorem append_wf {d : Dk} {n m : Nat} (h : d.WF n m) (p b : List UInt8) : (d.append p b).1.WF (n + 1) (m + b.length) :=
  with_wf h (Nat.le_add_right _ _) p _ _ fun x h1 h2 _ => by simp only [List.length_append]; omega
theorem sync_wf {d : Dk} {n m : Nat} (h : d.WF n m) (p : List UInt8) : (d.sync p).1.WF (n + 1) m :=
  with_wf h (Nat.le_refl _) p _ _ fun x h1 h2 _ => ⟨h1, Nat.le_refl _⟩
theorem rename_wf {d : Dk} {n m : Nat} (h : d.WF n m) (a b : List UInt8) : (d.rename a b).1.WF (n + 1) m := by
  have h0 := h.mono (Nat.le_succ n) (Nat.le_refl m)
  unfold Dk.rename
  split
  · exact h0
  split
  · exact h0
  rename_i hb
  split
  · exact h0
  rename_i hf
  split
  · exact h0
  split
  · exact h0
  split
  · exact h0
  rename_i x hx
  obtain ⟨x1, x2⟩ := getN_mem hx
  obtain ⟨a1, a2, a3⟩ := h.now_ok _ x1
  have hxd : x.dir = false := by
    unfold fileD at hf
    rw [hx] at hf
    cases hd : x.dir
    · rfl
    · simp [hd] at hf
  refine step_wf h (chg_wf h ⟨fun z hz n hn he => ?_, ?_⟩ (fun y hy => ?_) fun y hy => ?_) (Nat.le_refl m)
  · simp only [Chg.came, List.mem_singleton] at hz; subst hz
    have hg := getN_of h.now_sn.nd hn
    rw [he] at hg
    simp only at hg
    simp [goneN, hg, Chg.gone]
  · cases hg : getN d.now b with
    | none => trivial
    | some y => exact (getN_mem hg).2
  · simp only [Chg.came, List.mem_singleton] at hy; subst hy
    exact ⟨by simp only; omega, fun _ => a2 hxd, by simpa using hb⟩
  · cases hg : getN d.now b with
    | none =>
      rw [hg] at hy
      simp only [Chg.gone, List.mem_singleton] at hy; subst hy; exact ⟨by omega, a3⟩
    | some z =>
      rw [hg] at hy
      simp only [Chg.gone, List.mem_cons, List.not_mem_nil, or_false] at hy
      obtain ⟨b1, b2, b3⟩ := h.now_ok _ (getN_mem hg).1
      rcases hy with rfl | rfl
      · exact ⟨by omega, a3⟩
      · exact ⟨by omega, b3⟩
theorem syncDirs_wf {d : Dk} {n m : Nat} (h : d.WF n m) : d.syncDirs.1.WF (n + 1) m := by
  have h0 := h.mono (Nat.le_succ n) (Nat.le_refl m)
  unfold Dk.syncDirs
  split
  · exact h0
  refine step_wf h ⟨h0.now_sn, trivial, ?_, h0.fl, h0.op, h0.now_ok, by simp, h0.sz, h0.rm, h0.fa, h0.wr⟩ (Nat.le_refl m)
  simpa using h0.now_len
theorem fail_wf {d : Dk} {n m : Nat} (h : d.WF n m) (a : Int) (ha : a ≤ 9223372036854775807) (b : Bool) : (d.fail a b).1.WF n m := by
  unfold Dk.fail
  split
  · exact h
  split
  · exact h
  · exact h.ctr _ _ _ _ _ h.op ⟨by omega, ha⟩ h.wr
theorem crashF_ok (m : Nat) : ∀ (l : List Nm) (f : List Fl) (keep : List UInt8), (∀ x ∈ f, x.b.length ≤ m ∧ x.safe ≤ x.b.length) → (crashF l f keep).length = f.length ∧ ∀ x ∈ crashF l f keep, x.b.length ≤ m ∧ x.safe ≤ x.b.length
  | [], f, keep, h => ⟨rfl, h⟩
  | n :: l, f, keep, h => by
    have hx : (f.getD n.id default).b.length ≤ m ∧ (f.getD n.id default).safe ≤ (f.getD n.id default).b.length := by
      rw [List.getD_eq_getElem?_getD]
      cases hi : f[n.id]? with
      | none => exact ⟨Nat.zero_le _, Nat.zero_le _⟩
      | some x => exact h x (List.mem_of_getElem? hi)
    have key : ∀ y : Fl, y.b.length ≤ m → y.safe ≤ y.b.length → ∀ x ∈ f.set n.id y, x.b.length ≤ m ∧ x.safe ≤ x.b.length := by
      intro y h1 h2 x hx
      rcases List.mem_or_eq_of_mem_set hx with hx | rfl
      · exact h x hx
      · exact ⟨h1, h2⟩
    rw [crashF]
    split
    · exact crashF_ok m l f keep h
    · dsimp only
      split
      · rename_i hk
        have hlt := Nat.mod_lt (keep.headD 0).toNat (show (f.getD n.id default).b.length - (f.getD n.id default).safe + 1 > 0 by omega)
        have := crashF_ok m l _ keep.tail (key ⟨(f.getD n.id default).b.take ((f.getD n.id default).safe + (keep.headD 0).toNat % ((f.getD n.id default).b.length - (f.getD n.id default).safe + 1)), (f.getD n.id default).safe + (keep.headD 0).toNat % ((f.getD n.id default).b.length - (f.getD n.id default).safe + 1)⟩ (by simp only [List.length_take]; omega) (by simp only [List.length_take]; omega))
        rw [List.length_set] at this
        exact this
      · have := crashF_ok m l _ keep (key ⟨(f.getD n.id default).b.take (f.getD n.id default).safe, (f.getD n.id default).safe⟩ (by simp only [List.length_take]; omega) (by simp only [List.length_take]; omega))
        rw [List.length_set] at this
        exact this
theorem crash_wf {d : Dk} {n m : Nat} (h : d.WF n m) (count : Int) (keep : List UInt8) : (d.crash count keep).WF n m := by
  unfold Dk.crash
  dsimp only
  generalize (max 0 (min count (d.loose.length : Int))).toNat = k
  obtain ⟨c1, c2⟩ := crashF_ok m (appAll d.sure (d.loose.take k)) d.f keep h.sz
  have hl := appAll_len (d.loose.take k) d.sure
  have hk : (d.loose.take k).length ≤ d.loose.length := by rw [List.length_take]; omega
  have := h.len
  refine ⟨chain_sn h.sn (chain_take k h.ch), trivial, by simp only [List.length_nil]; omega, by rw [c1]; exact h.fl, h.op, ?_, by simp, c2, h.rm, ⟨by simp only; omega, by simp only; omega⟩, ⟨by simp only; omega, by simp only; omega⟩⟩
  rw [c1]
  exact appAll_ok h.ids fun c hc => (h.idc c (List.mem_of_mem_take hc)).1
theorem newD_wf (room : Int) : (newD room).WF 0 0 :=
  ⟨List.Pairwise.nil, trivial, Nat.le_refl _, Nat.le_refl _, Nat.le_refl _, by simp [newD], by simp [newD], by simp [newD], by simp only [newD]; omega, by simp only [newD]; omega, by simp only [newD]; omega⟩
end Sm

set_option linter.unusedVariables false
set_option linter.unusedSimpArgs false
namespace Sm
open Go
/-- Names that are a tree; no two are one file. -/
structure TrN (l : List Nm) : Prop where
  par : ∀ x ∈ l, parL x.path ≠ [] → ∃ y ∈ l, y.path = parL x.path ∧ y.dir = true
  one : ∀ x ∈ l, ∀ y ∈ l, x.dir = false → y.dir = false → x.id = y.id → x = y
/-- What is there is a tree, wherever the power fails. -/
def Dk.Tr (d : Dk) : Prop := ∀ k, TrN (appAll d.sure (d.loose.take k))
theorem Dk.Tr.now {d : Dk} (h : d.Tr) : TrN d.now := by
  have := h d.loose.length
  rwa [List.take_length] at this
theorem Dk.Tr.of {d e : Dk} (h : d.Tr) (h1 : e.sure = d.sure) (h2 : e.loose = d.loose) : e.Tr := fun k => by rw [h1, h2]; exact h k
end Sm
