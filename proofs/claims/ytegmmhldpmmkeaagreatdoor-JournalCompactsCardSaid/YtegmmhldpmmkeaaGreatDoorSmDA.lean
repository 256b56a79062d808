/-
  D1,D2,D40,D3,D4,D5,D6,D7,D41
-/
import Derived.Test.YtegmmhldpmmkeaaGreatDoorSmTC
import Derived.Test.YtegmmhldpmmkeaaGreatDoorSmLJ
import Derived.Test.YtegmmhldpmmkeaaGreatDoorSmTB
set_option linter.unusedVariables false
set_option linter.unusedSimpArgs false
namespace Sm
open Go
structure Nm where
 path : List UInt8
 dir : Bool
 id : Nat
 deriving DecidableEq, Inhabited
structure Fl where
 b : List UInt8
 safe : Nat
 deriving DecidableEq, Inhabited
inductive Chg where
 | mk (x : Nm)
 | rm (x : Nm)
 | mv (x : Nm) (y : Option Nm) (b : List UInt8)
 deriving DecidableEq, Inhabited
def Chg.gone : Chg → List Nm
 | .mk _ => []
 | .rm x => [x]
 | .mv x none _ => [x]
 | .mv x (some y) _ => [x, y]
def Chg.came : Chg → List Nm
 | .mk x => [x]
 | .rm _ => []
 | .mv x _ b => [⟨b, false, x.id⟩]
def laidN (l : List Nm) (x : Nm) : List Nm := l.takeWhile (fun n => lessP n.path x.path) ++ x :: l.dropWhile (fun n => lessP n.path x.path)
def goneN (c : Chg) (n : Nm) : Bool := c.gone.any fun g => g.path == n.path
def appC (l : List Nm) (c : Chg) : List Nm := c.came.foldl laidN (l.filter fun n => !goneN c n)
def appAll (l : List Nm) (cs : List Chg) : List Nm := cs.foldl appC l
def SN (l : List Nm) : Prop := l.Pairwise fun x y => lessP x.path y.path = true
def Chg.fit : Chg → Prop
 | .mv _ (some y) b => y.path = b
 | _ => True
def okC (l : List Nm) (c : Chg) : Prop := (∀ z ∈ c.came, ∀ n ∈ l, n.path = z.path → goneN c n = true) ∧ c.fit
def getN (l : List Nm) (p : List UInt8) : Option Nm := l.find? (fun n => n.path == p)
theorem SN.nd {l : List Nm} (h : SN l) : (l.map Nm.path).Nodup := by
 rw [List.Nodup, List.pairwise_map]
 refine h.imp fun {x y} hxy he => ?_
 rw [he, lessP_irr] at hxy; cases hxy
theorem SN.filter {l : List Nm} (h : SN l) (p : Nm → Bool) : SN (l.filter p) := List.Pairwise.sublist List.filter_sublist h
theorem nd_eq {l : List Nm} (h : (l.map Nm.path).Nodup) {x y : Nm} (hx : x ∈ l) (hy : y ∈ l) (he : x.path = y.path) : x = y := by
 obtain ⟨i, hi, rfl⟩ := List.getElem_of_mem hx
 obtain ⟨j, hj, rfl⟩ := List.getElem_of_mem hy
 have := nodup_inj h (i := i) (j := j) (by simpa using hi) (by simpa using hj) (by simpa using he)
 subst this; rfl
theorem mem_tw {α : Type} {p : α → Bool} : ∀ {l : List α} {x : α}, x ∈ l.takeWhile p → p x = true
 | [], x, h => by simp at h
 | a :: l, x, h => by
   rw [List.takeWhile_cons] at h
   split at h
   · rename_i ha
     rcases List.mem_cons.mp h with rfl | h
     · exact ha
     · exact mem_tw h
   · simp at h
theorem laidN_mem {l : List Nm} {x n : Nm} : n ∈ laidN l x ↔ n = x ∨ n ∈ l := by
 unfold laidN
 rw [List.mem_append, List.mem_cons]
 conv => rhs; rw [← List.takeWhile_append_dropWhile (p := fun n => lessP n.path x.path) (l := l), List.mem_append]
 constructor
 · rintro (h | h | h)
   · exact .inr (.inl h)
   · exact .inl h
   · exact .inr (.inr h)
 · rintro (h | h | h)
   · exact .inr (.inl h)
   · exact .inl h
   · exact .inr (.inr h)
theorem laidN_len (l : List Nm) (x : Nm) : (laidN l x).length = l.length + 1 := by
 have h := congrArg List.length (List.takeWhile_append_dropWhile (p := fun n => lessP n.path x.path) (l := l))
 unfold laidN
 simp only [List.length_append, List.length_cons] at h ⊢
 omega
theorem drop_ge {l : List Nm} (h : SN l) (x : Nm) : ∀ n ∈ l.dropWhile (fun n => lessP n.path x.path), lessP n.path x.path = false := by
 induction l with
 | nil => simp
 | cons a l ih =>
   intro n hn
   rw [List.dropWhile_cons] at hn
   split at hn
   · exact ih (List.pairwise_cons.mp h).2 n hn
   · rename_i ha
     rcases List.mem_cons.mp hn with rfl | hn
     · simpa using ha
     · have h1 := (List.pairwise_cons.mp h).1 n hn
       cases hc : lessP n.path x.path
       · rfl
       · exact absurd (lessP_trans h1 hc) ha
theorem laidN_sn {l : List Nm} (h : SN l) {x : Nm} (hx : ∀ n ∈ l, n.path ≠ x.path) : SN (laidN l x) := by
 have h0 := h
 rw [SN, ← List.takeWhile_append_dropWhile (p := fun n => lessP n.path x.path) (l := l), List.pairwise_append] at h0
 obtain ⟨h1, h2, h3⟩ := h0
 unfold laidN
 rw [SN, List.pairwise_append, List.pairwise_cons]
 have hd : ∀ n ∈ l.dropWhile (fun n => lessP n.path x.path), lessP x.path n.path = true := fun n hn => by
   refine lessP_tot (drop_ge h x n hn) ?_
   refine hx n ?_
   rw [← List.takeWhile_append_dropWhile (p := fun n => lessP n.path x.path) (l := l), List.mem_append]
   exact .inr hn
 refine ⟨h1, ⟨hd, h2⟩, fun a ha b hb => ?_⟩
 have hax := mem_tw ha
 rcases List.mem_cons.mp hb with rfl | hb
 · exact hax
 · exact h3 a ha b hb
theorem came_one (c : Chg) : c.came = [] ∨ ∃ z, c.came = [z] := by
 cases c with
 | mk x => exact .inr ⟨_, rfl⟩
 | rm x => exact .inl rfl
 | mv x y b => exact .inr ⟨_, rfl⟩
theorem appC_mem {l : List Nm} {c : Chg} {n : Nm} : n ∈ appC l c ↔ n ∈ c.came ∨ (n ∈ l ∧ goneN c n = false) := by
 unfold appC
 rcases came_one c with h | ⟨z, h⟩
 · rw [h]; simp
 · rw [h]
   simp only [List.foldl_cons, List.foldl_nil, laidN_mem, List.mem_filter, Bool.not_eq_true', List.mem_cons, List.not_mem_nil, or_false]
theorem appC_sn {l : List Nm} {c : Chg} (h : SN l) (hc : okC l c) : SN (appC l c) := by
 unfold appC
 rcases came_one c with h1 | ⟨z, h1⟩
 · rw [h1]; exact h.filter _
 · rw [h1]
   refine laidN_sn (h.filter _) fun n hn he => ?_
   rw [List.mem_filter] at hn
   have := hc.1 z (by rw [h1]; simp) n hn.1 he
   simp [this] at hn
theorem appC_len (l : List Nm) (c : Chg) : (appC l c).length ≤ l.length + 1 := by
 unfold appC
 have hf := List.length_filter_le (fun n => !goneN c n) l
 rcases came_one c with h1 | ⟨z, h1⟩
 · rw [h1, List.foldl_nil]; omega
 · rw [h1, List.foldl_cons, List.foldl_nil, laidN_len]; omega
theorem appAll_len (cs : List Chg) : ∀ l : List Nm, (appAll l cs).length ≤ l.length + cs.length := by
 induction cs with
 | nil => intro l; exact Nat.le_refl _
 | cons c cs ih =>
   intro l
   have h1 := ih (appC l c)
   have h2 := appC_len l c
   rw [appAll, List.foldl_cons]
   rw [appAll] at h1
   simp only [List.length_cons]; omega
theorem appAll_snoc (l : List Nm) (cs : List Chg) (c : Chg) : appAll l (cs ++ [c]) = appC (appAll l cs) c := by
 rw [appAll, List.foldl_append]; rfl
def chain : List Nm → List Chg → Prop
 | l, [] => True
 | l, c :: cs => okC l c ∧ chain (appC l c) cs
theorem chain_sn : ∀ {cs : List Chg} {l : List Nm}, SN l → chain l cs → SN (appAll l cs)
 | [], l, h, _ => h
 | c :: cs, l, h, hc => by
   rw [appAll, List.foldl_cons]
   exact chain_sn (appC_sn h hc.1) hc.2
theorem chain_snoc : ∀ {cs : List Chg} {l : List Nm} {c : Chg}, chain l cs → okC (appAll l cs) c → chain l (cs ++ [c])
 | [], l, c, _, h => ⟨h, trivial⟩
 | d :: cs, l, c, hc, h => ⟨hc.1, chain_snoc hc.2 h⟩
theorem chain_take : ∀ {cs : List Chg} {l : List Nm} (k : Nat), chain l cs → chain l (cs.take k)
 | [], l, k, h => by rw [List.take_nil]; trivial
 | d :: cs, l, 0, h => trivial
 | d :: cs, l, k + 1, h => ⟨h.1, chain_take k h.2⟩
theorem getN_mem {l : List Nm} {p : List UInt8} {x : Nm} (h : getN l p = some x) : x ∈ l ∧ x.path = p :=
 ⟨List.mem_of_find?_eq_some h, by simpa using List.find?_some h⟩
theorem getN_none {l : List Nm} {p : List UInt8} (h : getN l p = none) : ∀ n ∈ l, n.path ≠ p := fun n hn => by
 simpa using List.find?_eq_none.mp h n hn
theorem getN_of {l : List Nm} (hn : (l.map Nm.path).Nodup) {x : Nm} (hx : x ∈ l) : getN l x.path = some x := by
 cases h : getN l x.path with
 | none => exact absurd rfl (getN_none h x hx)
 | some y =>
   obtain ⟨h1, h2⟩ := getN_mem h
   rw [nd_eq hn h1 hx h2]
theorem getN_perm {l m : List Nm} (hp : m.Perm l) (hn : (l.map Nm.path).Nodup) (p : List UInt8) : getN m p = getN l p := by
 have hm : (m.map Nm.path).Nodup := (hp.map _).nodup_iff.mpr hn
 cases h : getN l p with
 | none =>
   cases h2 : getN m p with
   | none => rfl
   | some y =>
     obtain ⟨h3, h4⟩ := getN_mem h2
     exact absurd h4 (getN_none h y (hp.mem_iff.mp h3))
 | some y =>
   obtain ⟨h3, rfl⟩ := getN_mem h
   exact getN_of hm (hp.mem_iff.mpr h3)
theorem nd_of_map {l : List Nm} (h : (l.map Nm.path).Nodup) : l.Nodup := by
 rw [List.Nodup, List.pairwise_map] at h
 exact h.imp fun hxy he => hxy (by rw [he])
theorem perm_of {a b : List Nm} (ha : (a.map Nm.path).Nodup) (hb : (b.map Nm.path).Nodup) (h : ∀ n, n ∈ a ↔ n ∈ b) : a.Perm b :=
 (List.perm_ext_iff_of_nodup (nd_of_map ha) (nd_of_map hb)).mpr h
theorem mputN_mem {m : List Nm} (h : (m.map Nm.path).Nodup) (x n : Nm) : n ∈ mput Nm.path m x ↔ n = x ∨ (n ∈ m ∧ n.path ≠ x.path) := by
 unfold mput
 split
 · rename_i hany
   obtain ⟨y, hy, hy2⟩ := List.any_eq_true.mp hany
   have hy3 : y.path = x.path := by simpa using hy2
   rw [List.mem_map]
   constructor
   · rintro ⟨a, ha, rfl⟩
     split
     · exact .inl rfl
     · rename_i hne; exact .inr ⟨ha, by simpa using hne⟩
   · rintro (rfl | ⟨h1, h2⟩)
     · exact ⟨y, hy, if_pos hy2⟩
     · exact ⟨n, h1, if_neg (by simpa using h2)⟩
 · rename_i hany
   rw [List.mem_append, List.mem_singleton]
   constructor
   · rintro (h1 | h1)
     · refine .inr ⟨h1, fun he => hany (List.any_eq_true.mpr ⟨n, h1, by simpa using he⟩)⟩
     · exact .inl h1
   · rintro (h1 | h1)
     · exact .inr h1
     · exact .inl h1.1
theorem filt_nd {m : List Nm} (h : (m.map Nm.path).Nodup) (p : Nm → Bool) : ((m.filter p).map Nm.path).Nodup := List.Nodup.sublist (List.filter_sublist.map _) h
def Chg.ps : Chg → List (List UInt8 × Option Nm)
 | .mk x => [(x.path, some x)]
 | .rm x => [(x.path, none)]
 | .mv x _ b => [(x.path, none), (b, some ⟨b, false, x.id⟩)]
def apM (m : List Nm) (q : List UInt8 × Option Nm) : List Nm := match q.2 with
 | none => m.filter fun n => !(n.path == q.1)
 | some x => mput Nm.path m x
theorem apM_nd {m : List Nm} (h : (m.map Nm.path).Nodup) (q : List UInt8 × Option Nm) : ((apM m q).map Nm.path).Nodup := by
 obtain ⟨p, o⟩ := q
 cases o with
 | none => exact filt_nd h _
 | some x => exact mput_keys h
theorem apM_perm {m l : List Nm} {c : Chg} (hp : m.Perm l) (hs : SN l) (hc : okC l c) : (c.ps.foldl apM m).Perm (appC l c) := by
 have hm : (m.map Nm.path).Nodup := (hp.map _).nodup_iff.mpr hs.nd
 have hn : ∀ qs : List (List UInt8 × Option Nm), ∀ m, (m.map Nm.path).Nodup → ((qs.foldl apM m).map Nm.path).Nodup := by
   intro qs
   induction qs with
   | nil => intro m h; exact h
   | cons q qs ih => intro m h; rw [List.foldl_cons]; exact ih _ (apM_nd h q)
 refine perm_of (hn _ _ hm) (appC_sn hs hc).nd fun n => ?_
 rw [appC_mem]
 cases c with
 | mk x =>
   simp only [Chg.ps, List.foldl_cons, List.foldl_nil, apM, mputN_mem hm, Chg.came, List.mem_cons, List.not_mem_nil, or_false, goneN, Chg.gone, List.any_nil, and_true, hp.mem_iff]
   constructor
   · rintro (h | h)
     · exact .inl h
     · exact .inr h.1
   · rintro (h | h)
     · exact .inl h
     · refine .inr ⟨h, fun he => ?_⟩
       have := hc.1 x (by simp [Chg.came]) n h he
       simp [goneN, Chg.gone] at this
 | rm x =>
   simp only [Chg.ps, List.foldl_cons, List.foldl_nil, apM, Chg.came, List.not_mem_nil, false_or, goneN, Chg.gone, List.any_cons, List.any_nil, Bool.or_false, List.mem_filter, hp.mem_iff]
   constructor
   · rintro ⟨h1, h2⟩
     refine ⟨h1, ?_⟩
     have h3 : ¬ n.path = x.path := by simpa using h2
     simpa using fun he => h3 he.symm
   · rintro ⟨h1, h2⟩
     refine ⟨h1, ?_⟩
     have h3 : ¬ x.path = n.path := by simpa using h2
     simpa using fun he => h3 he.symm
 | mv x y b =>
   have hm2 := apM_nd hm (x.path, none)
   have hg : ∀ n ∈ l, (goneN (.mv x y b) n = false ↔ n.path ≠ x.path ∧ n.path ≠ b) := by
     intro n hn
     cases y with
     | none =>
       simp only [goneN, Chg.gone, List.any_cons, List.any_nil, Bool.or_false]
       constructor
       · intro h
         have h3 : ¬ x.path = n.path := by simpa using h
         refine ⟨fun he => h3 he.symm, fun he => ?_⟩
         have := hc.1 ⟨b, false, x.id⟩ (by simp [Chg.came]) n hn he
         simp only [goneN, Chg.gone, List.any_cons, List.any_nil, Bool.or_false] at this
         rw [this] at h; cases h
       · rintro ⟨h1, h2⟩
         simpa using fun he => h1 he.symm
     | some y =>
       have hy : y.path = b := hc.2
       simp only [goneN, Chg.gone, List.any_cons, List.any_nil, Bool.or_false, hy]
       constructor
       · intro h
         have h3 : ¬ x.path = n.path ∧ ¬ b = n.path := by simpa using h
         exact ⟨fun he => h3.1 he.symm, fun he => h3.2 he.symm⟩
       · rintro ⟨h1, h2⟩
         simpa using ⟨fun he => h1 he.symm, fun he => h2 he.symm⟩
   simp only [Chg.ps, List.foldl_cons, List.foldl_nil]
   rw [show apM (apM m (x.path, none)) (b, some ⟨b, false, x.id⟩) = mput Nm.path (apM m (x.path, none)) ⟨b, false, x.id⟩ from rfl, mputN_mem hm2]
   simp only [apM, List.mem_filter, hp.mem_iff, Chg.came, List.mem_cons, List.not_mem_nil, or_false]
   constructor
   · rintro (h | ⟨⟨h1, h2⟩, h3⟩)
     · exact .inl h
     · exact .inr ⟨h1, (hg n h1).mpr ⟨by simpa using h2, h3⟩⟩
   · rintro (h | ⟨h1, h2⟩)
     · exact .inl h
     · obtain ⟨h3, h4⟩ := (hg n h1).mp h2
       exact .inr ⟨⟨h1, by simpa using h3⟩, h4⟩
structure Dk where
 room : Int
 sure : List Nm
 loose : List Chg
 f : List Fl
 down : Bool
 ops : Nat
 fails : Int
 done : Bool
 wrong : Int
 deriving Inhabited
def Dk.now (d : Dk) : List Nm := appAll d.sure d.loose
def Dk.used (d : Dk) : Nat := (d.now.map fun n => if n.dir then 0 else (d.f.getD n.id default).b.length).sum
def newD (room : Int) : Dk := ⟨max 0 (min room 16777216), [], [], [], false, 0, -1, false, -1⟩
structure Dk.WF (d : Dk) (n m : Nat) : Prop where
 sn : SN d.sure
 ch : chain d.sure d.loose
 len : d.sure.length + d.loose.length ≤ n
 fl : d.f.length ≤ n
 op : d.ops ≤ n
 ids : ∀ x ∈ d.sure, x.id < n ∧ (x.dir = false → x.id < d.f.length) ∧ chkP x.path = 0
 idc : ∀ c ∈ d.loose, (∀ x ∈ c.came, x.id < n ∧ (x.dir = false → x.id < d.f.length) ∧ chkP x.path = 0) ∧ ∀ x ∈ c.gone, x.id < n ∧ chkP x.path = 0
 sz : ∀ x ∈ d.f, x.b.length ≤ m ∧ x.safe ≤ x.b.length
 rm : 0 ≤ d.room ∧ d.room ≤ 16777216
 fa : -1 ≤ d.fails ∧ d.fails ≤ 9223372036854775807
 wr : -1 ≤ d.wrong ∧ d.wrong ≤ 9223372036854775807
theorem Dk.WF.now_sn {d : Dk} {n m : Nat} (h : d.WF n m) : SN d.now := chain_sn h.sn h.ch
theorem appAll_ok {P : Nm → Prop} : ∀ {cs : List Chg} {l : List Nm}, (∀ x ∈ l, P x) → (∀ c ∈ cs, ∀ x ∈ c.came, P x) → ∀ x ∈ appAll l cs, P x
 | [], l, h, _ => h
 | c :: cs, l, h, hc => by
   rw [appAll, List.foldl_cons]
   refine appAll_ok (fun x hx => ?_) (fun d hd => hc d (List.mem_cons_of_mem _ hd))
   rcases appC_mem.mp hx with h1 | h1
   · exact hc c (by simp) x h1
   · exact h x h1.1
theorem Dk.WF.now_ok {d : Dk} {n m : Nat} (h : d.WF n m) : ∀ x ∈ d.now, x.id < n ∧ (x.dir = false → x.id < d.f.length) ∧ chkP x.path = 0 :=
 appAll_ok h.ids fun c hc => (h.idc c hc).1
theorem Dk.WF.now_len {d : Dk} {n m : Nat} (h : d.WF n m) : d.now.length ≤ n := Nat.le_trans (appAll_len _ _) h.len
def parD (l : List Nm) (p : List UInt8) : Int := if parL p = [] then 0 else match getN l (parL p) with
 | none => 8
 | some x => if x.dir then 0 else 9
def fileD (l : List Nm) (p : List UInt8) : Int := match getN l p with
 | none => 8
 | some x => if x.dir then 9 else 0
def idD (l : List Nm) (p : List UInt8) : Nat := match getN l p with
 | none => 0
 | some x => x.id
def tickD (n : Int) : Int := if n = -1 then -1 else n - 1
def Dk.step (d next : Dk) : Dk × Int :=
 if d.fails = 0 then
   (if d.done then { next with ops := d.ops + 1, fails := tickD d.fails, wrong := tickD d.wrong, down := true } else { d with ops := d.ops + 1, fails := tickD d.fails, wrong := tickD d.wrong, down := true }, 11)
 else if d.wrong = 0 then ({ d with ops := d.ops + 1, fails := tickD d.fails, wrong := tickD d.wrong }, 12)
 else ({ next with ops := d.ops + 1, fails := tickD d.fails, wrong := tickD d.wrong }, 0)
def Dk.chg (d : Dk) (c : Chg) : Dk := { d with loose := d.loose ++ [c] }
def Dk.asked (d : Dk) (p : List UInt8) : Int := if d.down then 11 else chkP p
def Dk.put (d : Dk) (p : List UInt8) (dir : Bool) : Dk × Int :=
 if d.asked p ≠ 0 then (d, d.asked p) else if parD d.now p ≠ 0 then (d, parD d.now p) else if (getN d.now p).isSome then (d, 7)
 else d.step (Dk.chg { d with f := if dir then d.f else d.f ++ [⟨[], 0⟩] } (.mk ⟨p, dir, if dir then 0 else d.f.length⟩))
def Dk.with' (d : Dk) (p : List UInt8) (may : Fl → Int) (g : Fl → Fl) : Dk × Int :=
 if d.asked p ≠ 0 then (d, d.asked p) else if fileD d.now p ≠ 0 then (d, fileD d.now p) else
 if may (d.f.getD (idD d.now p) default) ≠ 0 then (d, may (d.f.getD (idD d.now p) default))
 else d.step { d with f := d.f.set (idD d.now p) (g (d.f.getD (idD d.now p) default)) }
def Dk.append (d : Dk) (p b : List UInt8) : Dk × Int := d.with' p (fun _ => if d.room - d.used < b.length then 10 else 0) fun f => ⟨f.b ++ b, f.safe⟩
def Dk.cut (d : Dk) (p : List UInt8) (n : Int) : Dk × Int := d.with' p (fun f => if n < 0 ∨ n > f.b.length then 13 else 0) fun f => ⟨f.b.take n.toNat, min n.toNat f.safe⟩
def Dk.sync (d : Dk) (p : List UInt8) : Dk × Int := d.with' p (fun _ => 0) fun f => ⟨f.b, f.b.length⟩
def Dk.remove (d : Dk) (p : List UInt8) : Dk × Int :=
 if d.asked p ≠ 0 then (d, d.asked p) else match getN d.now p with
 | none => (d, 8)
 | some x => if d.now.any (fun n => parL n.path == p) then (d, 10) else d.step (d.chg (.rm x))
def Dk.rename (d : Dk) (a b : List UInt8) : Dk × Int :=
 if d.asked a ≠ 0 then (d, d.asked a) else if chkP b ≠ 0 then (d, chkP b) else if fileD d.now a ≠ 0 then (d, fileD d.now a) else if parD d.now b ≠ 0 then (d, parD d.now b)
 else if (getN d.now b).any (·.dir) then (d, 9) else match getN d.now a with
 | none => (d, 0)
 | some x => d.step (d.chg (.mv x (getN d.now b) b))
def Dk.syncDirs (d : Dk) : Dk × Int := if d.down then (d, 11) else d.step { d with sure := d.now, loose := [] }
def Dk.fail (d : Dk) (after : Int) (done : Bool) : Dk × Int := if d.down then (d, 11) else if after < 0 then (d, 2) else ({ d with fails := after, done := done }, 0)
def Dk.fault (d : Dk) (after : Int) : Dk × Int := if d.down then (d, 11) else if after < 0 then (d, 2) else ({ d with wrong := after }, 0)
def crashF : List Nm → List Fl → List UInt8 → List Fl
 | [], f, _ => f
 | n :: l, f, keep =>
   if n.dir then crashF l f keep
   else
     let x := f.getD n.id default
     if x.safe < x.b.length ∧ keep ≠ [] then
       let s := x.safe + (keep.headD 0).toNat % (x.b.length - x.safe + 1)
       crashF l (f.set n.id ⟨x.b.take s, s⟩) keep.tail
     else crashF l (f.set n.id ⟨x.b.take x.safe, x.safe⟩) keep
def Dk.crash (d : Dk) (count : Int) (keep : List UInt8) : Dk :=
 let l := appAll d.sure (d.loose.take (max 0 (min count d.loose.length)).toNat)
 { d with sure := l, loose := [], f := crashF l d.f keep, down := false, fails := -1, wrong := -1, done := false }
def Dk.read (d : Dk) (p : List UInt8) : List UInt8 × Int := if d.down then ([], 11) else if fileD d.now p ≠ 0 then ([], fileD d.now p) else ((d.f.getD (idD d.now p) default).b, 0)
def Dk.safe (d : Dk) (p : List UInt8) : Nat := if fileD d.now p ≠ 0 then 0 else (d.f.getD (idD d.now p) default).safe
def Dk.list (d : Dk) : List Ent := if d.down then [] else d.now.map fun n => ⟨n.path, n.dir, if n.dir then [] else (d.f.getD n.id default).b⟩
theorem Dk.WF.mono {d : Dk} {n m n' m' : Nat} (h : d.WF n m) (hn : n ≤ n') (hm : m ≤ m') : d.WF n' m' where
 sn := h.sn
 ch := h.ch
 len := Nat.le_trans h.len hn
 fl := Nat.le_trans h.fl hn
 op := Nat.le_trans h.op hn
 ids := fun x hx => ⟨Nat.lt_of_lt_of_le (h.ids x hx).1 hn, (h.ids x hx).2⟩
 idc := fun c hc => ⟨fun x hx => ⟨Nat.lt_of_lt_of_le ((h.idc c hc).1 x hx).1 hn, ((h.idc c hc).1 x hx).2⟩, fun x hx => ⟨Nat.lt_of_lt_of_le ((h.idc c hc).2 x hx).1 hn, ((h.idc c hc).2 x hx).2⟩⟩
 sz := fun x hx => ⟨Nat.le_trans (h.sz x hx).1 hm, (h.sz x hx).2⟩
 rm := h.rm
 fa := h.fa
 wr := h.wr
theorem tickD_ok {n : Int} (h : -1 ≤ n ∧ n ≤ 9223372036854775807) : -1 ≤ tickD n ∧ tickD n ≤ 9223372036854775807 := by
 unfold tickD; split <;> omega
theorem Dk.WF.ctr {d : Dk} {n m : Nat} (h : d.WF n m) (ops : Nat) (fails wrong : Int) (down done : Bool) (ho : ops ≤ n) (hf : -1 ≤ fails ∧ fails ≤ 9223372036854775807) (hw : -1 ≤ wrong ∧ wrong ≤ 9223372036854775807) :
   Dk.WF ⟨d.room, d.sure, d.loose, d.f, down, ops, fails, done, wrong⟩ n m := ⟨h.sn, h.ch, h.len, h.fl, ho, h.ids, h.idc, h.sz, h.rm, hf, hw⟩
theorem step_wf {d next : Dk} {n m m' : Nat} (h : d.WF n m) (h2 : next.WF (n + 1) m') (hm : m ≤ m') : (d.step next).1.WF (n + 1) m' := by
 have ho : d.ops + 1 ≤ n + 1 := Nat.succ_le_succ h.op
 have h0 := h.mono (Nat.le_succ n) hm
 unfold Dk.step
 split
 · split
   · exact h2.ctr _ _ _ _ _ ho (tickD_ok h.fa) (tickD_ok h.wr)
   · exact h0.ctr _ _ _ _ _ ho (tickD_ok h.fa) (tickD_ok h.wr)
 · split
   · exact h0.ctr _ _ _ _ _ ho (tickD_ok h.fa) (tickD_ok h.wr)
   · exact h2.ctr _ _ _ _ _ ho (tickD_ok h.fa) (tickD_ok h.wr)
theorem asked_ok {d : Dk} {p : List UInt8} (h : ¬ d.asked p ≠ 0) : d.down = false ∧ chkP p = 0 := by
 unfold Dk.asked at h
 cases hd : d.down
 · rw [hd] at h; exact ⟨rfl, by simpa using h⟩
 · rw [hd] at h; simp at h
theorem chg_wf {d : Dk} {n m : Nat} (h : d.WF n m) {c : Chg} (hc : okC d.now c) (h1 : ∀ x ∈ c.came, x.id < n + 1 ∧ (x.dir = false → x.id < d.f.length) ∧ chkP x.path = 0) (h2 : ∀ x ∈ c.gone, x.id < n + 1 ∧ chkP x.path = 0) : (d.chg c).WF (n + 1) m := by
 have h0 := h.mono (Nat.le_succ n) (Nat.le_refl m)
 refine ⟨h0.sn, chain_snoc h0.ch hc, ?_, h0.fl, h0.op, h0.ids, fun e he => ?_, h0.sz, h0.rm, h0.fa, h0.wr⟩
 · have := h.len
   simp only [Dk.chg, List.length_append, List.length_cons, List.length_nil]; omega
 · rcases List.mem_append.mp he with he | he
   · exact h0.idc e he
   · rw [List.mem_singleton] at he; subst he; exact ⟨h1, h2⟩
theorem put_wf {d : Dk} {n m : Nat} (h : d.WF n m) (p : List UInt8) (dir : Bool) : (d.put p dir).1.WF (n + 1) m := by
 have h0 := h.mono (Nat.le_succ n) (Nat.le_refl m)
 unfold Dk.put
 split
 · exact h0
 rename_i ha
 split
 · exact h0
 split
 · exact h0
 rename_i hs
 have hnone : getN d.now p = none := by
   cases hg : getN d.now p with
   | none => rfl
   | some x => rw [hg] at hs; exact absurd rfl hs
 obtain ⟨_, hp⟩ := asked_ok ha
 refine step_wf h ?_ (Nat.le_refl m)
 cases dir with
 | true =>
   refine chg_wf h ⟨fun z hz n hn he => ?_, trivial⟩ (fun x hx => ?_) (by simp [Chg.gone])
   · simp only [Chg.came, List.mem_singleton] at hz; subst hz; exact absurd he (getN_none hnone n hn)
   · simp only [Chg.came, List.mem_singleton] at hx; subst hx; exact ⟨by simp, by simp, hp⟩
 | false =>
   have hf : Dk.WF { d with f := d.f ++ [⟨[], 0⟩] } (n + 1) m := by
     refine ⟨h0.sn, h0.ch, h0.len, by have := h.fl; simp; omega, h0.op, fun x hx => ?_, fun c hc => ?_, fun x hx => ?_, h0.rm, h0.fa, h0.wr⟩
     · obtain ⟨a1, a2, a3⟩ := h0.ids x hx
       exact ⟨a1, fun hd => by have := a2 hd; simp; omega, a3⟩
     · obtain ⟨b1, b2⟩ := h0.idc c hc
       refine ⟨fun x hx => ?_, b2⟩
       obtain ⟨a1, a2, a3⟩ := b1 x hx
       exact ⟨a1, fun hd => by have := a2 hd; simp; omega, a3⟩
     · rcases List.mem_append.mp hx with hx | hx
       · exact h0.sz x hx
       · rw [List.mem_singleton] at hx; subst hx; simp
   refine ⟨hf.sn, chain_snoc hf.ch ⟨fun z hz n hn he => ?_, trivial⟩, ?_, hf.fl, hf.op, hf.ids, fun e he => ?_, hf.sz, hf.rm, hf.fa, hf.wr⟩
   · simp only [Chg.came, List.mem_singleton] at hz; subst hz; exact absurd he (getN_none hnone n hn)
   · have := h.len
     simp only [Dk.chg, List.length_append, List.length_cons, List.length_nil]; omega
   · rcases List.mem_append.mp he with he | he
     · exact hf.idc e he
     · rw [List.mem_singleton] at he; subst he
       refine ⟨fun x hx => ?_, by simp [Chg.gone]⟩
       simp only [Chg.came, List.mem_singleton] at hx; subst hx
       have := h.fl
       refine ⟨by simp; omega, fun _ => by simp [Dk.chg], hp⟩
theorem fl_mem {d : Dk} {n m : Nat} (h : d.WF n m) (i : Nat) : (d.f.getD i default).b.length ≤ m ∧ (d.f.getD i default).safe ≤ (d.f.getD i default).b.length := by
 rw [List.getD_eq_getElem?_getD]
 cases hi : d.f[i]? with
 | none => exact ⟨Nat.zero_le _, Nat.zero_le _⟩
 | some x => exact h.sz x (List.mem_of_getElem? hi)
theorem with_wf {d : Dk} {n m m' : Nat} (h : d.WF n m) (hm : m ≤ m') (p : List UInt8) (may : Fl → Int) (g : Fl → Fl) (hg : ∀ x, x.b.length ≤ m → x.safe ≤ x.b.length → may x = 0 → (g x).b.length ≤ m' ∧ (g x).safe ≤ (g x).b.length) : (d.with' p may g).1.WF (n + 1) m' := by
 have h0 := h.mono (Nat.le_succ n) hm
 unfold Dk.with'
 split
 · exact h0
 split
 · exact h0
 split
 · exact h0
 rename_i hmay
 refine step_wf h ?_ hm
 refine ⟨h0.sn, h0.ch, h0.len, by simpa using h0.fl, h0.op, fun x hx => ?_, fun c hc => ?_, fun x hx => ?_, h0.rm, h0.fa, h0.wr⟩
 · simpa using h0.ids x hx
 · simpa using h0.idc c hc
 · obtain ⟨a1, a2⟩ := fl_mem h (idD d.now p)
   rcases List.mem_or_eq_of_mem_set hx with hx | rfl
   · exact h0.sz x hx
   · exact hg _ a1 a2 (by simpa using hmay)
theorem append_wf {d : Dk} {n m : Nat} (h : d.WF n m) (p b : List UInt8) : (d.append p b).1.WF (n + 1) (m + b.length) :=
 with_wf h (Nat.le_add_right _ _) p _ _ fun x h1 h2 _ => by simp only [List.length_append]; omega
theorem cut_wf {d : Dk} {n m : Nat} (h : d.WF n m) (p : List UInt8) (k : Int) : (d.cut p k).1.WF (n + 1) m :=
 with_wf h (Nat.le_refl _) p _ _ fun x h1 h2 h3 => by
   have : ¬ (k < 0 ∨ k > (x.b.length : Int)) := fun hc => by rw [if_pos hc] at h3; cases h3
   simp only [List.length_take]; omega
theorem sync_wf {d : Dk} {n m : Nat} (h : d.WF n m) (p : List UInt8) : (d.sync p).1.WF (n + 1) m :=
 with_wf h (Nat.le_refl _) p _ _ fun x h1 h2 _ => ⟨h1, Nat.le_refl _⟩
theorem remove_wf {d : Dk} {n m : Nat} (h : d.WF n m) (p : List UInt8) : (d.remove p).1.WF (n + 1) m := by
 have h0 := h.mono (Nat.le_succ n) (Nat.le_refl m)
 unfold Dk.remove
 split
 · exact h0
 split
 · exact h0
 rename_i x hx
 split
 · exact h0
 refine step_wf h (chg_wf h ⟨by simp [Chg.came], trivial⟩ (by simp [Chg.came]) fun y hy => ?_) (Nat.le_refl m)
 simp only [Chg.gone, List.mem_singleton] at hy; subst hy
 obtain ⟨a1, a2, a3⟩ := h.now_ok _ (getN_mem hx).1
 exact ⟨by omega, a3⟩
theorem rename_wf {d : Dk} {n m : Nat} (h : d.WF n m) (a b : List UInt8) : (d.rename a b).1.WF (n + 1) m := by
 have h0 := h.mono (Nat.le_succ n) (Nat.le_refl m)
 unfold Dk.rename
 split
 · exact h0
 split
 · exact h0
 rename_i hb
 split
 · exact h0
 rename_i hf
 split
 · exact h0
 split
 · exact h0
 split
 · exact h0
 rename_i x hx
 obtain ⟨x1, x2⟩ := getN_mem hx
 obtain ⟨a1, a2, a3⟩ := h.now_ok _ x1
 have hxd : x.dir = false := by
   unfold fileD at hf
   rw [hx] at hf
   cases hd : x.dir
   · rfl
   · simp [hd] at hf
 refine step_wf h (chg_wf h ⟨fun z hz n hn he => ?_, ?_⟩ (fun y hy => ?_) fun y hy => ?_) (Nat.le_refl m)
 · simp only [Chg.came, List.mem_singleton] at hz; subst hz
   have hg := getN_of h.now_sn.nd hn
   rw [he] at hg
   simp only at hg
   simp [goneN, hg, Chg.gone]
 · cases hg : getN d.now b with
   | none => trivial
   | some y => exact (getN_mem hg).2
 · simp only [Chg.came, List.mem_singleton] at hy; subst hy
   exact ⟨by simp only; omega, fun _ => a2 hxd, by simpa using hb⟩
 · cases hg : getN d.now b with
   | none =>
     rw [hg] at hy
     simp only [Chg.gone, List.mem_singleton] at hy; subst hy; exact ⟨by omega, a3⟩
   | some z =>
     rw [hg] at hy
     simp only [Chg.gone, List.mem_cons, List.not_mem_nil, or_false] at hy
     obtain ⟨b1, b2, b3⟩ := h.now_ok _ (getN_mem hg).1
     rcases hy with rfl | rfl
     · exact ⟨by omega, a3⟩
     · exact ⟨by omega, b3⟩
theorem syncDirs_wf {d : Dk} {n m : Nat} (h : d.WF n m) : d.syncDirs.1.WF (n + 1) m := by
 have h0 := h.mono (Nat.le_succ n) (Nat.le_refl m)
 unfold Dk.syncDirs
 split
 · exact h0
 refine step_wf h ⟨h0.now_sn, trivial, ?_, h0.fl, h0.op, h0.now_ok, by simp, h0.sz, h0.rm, h0.fa, h0.wr⟩ (Nat.le_refl m)
 simpa using h0.now_len
theorem fault_wf {d : Dk} {n m : Nat} (h : d.WF n m) (a : Int) (ha : a ≤ 9223372036854775807) : (d.fault a).1.WF n m := by
 unfold Dk.fault
 split
 · exact h
 split
 · exact h
 · exact h.ctr _ _ _ _ _ h.op h.fa ⟨by omega, ha⟩
theorem crashF_ok (m : Nat) : ∀ (l : List Nm) (f : List Fl) (keep : List UInt8), (∀ x ∈ f, x.b.length ≤ m ∧ x.safe ≤ x.b.length) → (crashF l f keep).length = f.length ∧ ∀ x ∈ crashF l f keep, x.b.length ≤ m ∧ x.safe ≤ x.b.length
 | [], f, keep, h => ⟨rfl, h⟩
 | n :: l, f, keep, h => by
   have hx : (f.getD n.id default).b.length ≤ m ∧ (f.getD n.id default).safe ≤ (f.getD n.id default).b.length := by
     rw [List.getD_eq_getElem?_getD]
     cases hi : f[n.id]? with
     | none => exact ⟨Nat.zero_le _, Nat.zero_le _⟩
     | some x => exact h x (List.mem_of_getElem? hi)
   have key : ∀ y : Fl, y.b.length ≤ m → y.safe ≤ y.b.length → ∀ x ∈ f.set n.id y, x.b.length ≤ m ∧ x.safe ≤ x.b.length := by
     intro y h1 h2 x hx
     rcases List.mem_or_eq_of_mem_set hx with hx | rfl
     · exact h x hx
     · exact ⟨h1, h2⟩
   rw [crashF]
   split
   · exact crashF_ok m l f keep h
   · dsimp only
     split
     · rename_i hk
       have hlt := Nat.mod_lt (keep.headD 0).toNat (show (f.getD n.id default).b.length - (f.getD n.id default).safe + 1 > 0 by omega)
       have := crashF_ok m l _ keep.tail (key ⟨(f.getD n.id default).b.take ((f.getD n.id default).safe + (keep.headD 0).toNat % ((f.getD n.id default).b.length - (f.getD n.id default).safe + 1)), (f.getD n.id default).safe + (keep.headD 0).toNat % ((f.getD n.id default).b.length - (f.getD n.id default).safe + 1)⟩ (by simp only [List.length_take]; omega) (by simp only [List.length_take]; omega))
       rw [List.length_set] at this
       exact this
     · have := crashF_ok m l _ keep (key ⟨(f.getD n.id default).b.take (f.getD n.id default).safe, (f.getD n.id default).safe⟩ (by simp only [List.length_take]; omega) (by simp only [List.length_take]; omega))
       rw [List.length_set] at this
       exact this
theorem crash_wf {d : Dk} {n m : Nat} (h : d.WF n m) (count : Int) (keep : List UInt8) : (d.crash count keep).WF n m := by
 unfold Dk.crash
 dsimp only
 generalize (max 0 (min count (d.loose.length : Int))).toNat = k
 obtain ⟨c1, c2⟩ := crashF_ok m (appAll d.sure (d.loose.take k)) d.f keep h.sz
 have hl := appAll_len (d.loose.take k) d.sure
 have hk : (d.loose.take k).length ≤ d.loose.length := by rw [List.length_take]; omega
 have := h.len
 refine ⟨chain_sn h.sn (chain_take k h.ch), trivial, by simp only [List.length_nil]; omega, by rw [c1]; exact h.fl, h.op, ?_, by simp, c2, h.rm, ⟨by simp only; omega, by simp only; omega⟩, ⟨by simp only; omega, by simp only; omega⟩⟩
 rw [c1]
 exact appAll_ok h.ids fun c hc => (h.idc c (List.mem_of_mem_take hc)).1
theorem newD_wf (room : Int) : (newD room).WF 0 0 :=
 ⟨List.Pairwise.nil, trivial, Nat.le_refl _, Nat.le_refl _, Nat.le_refl _, by simp [newD], by simp [newD], by simp [newD], by simp only [newD]; omega, by simp only [newD]; omega, by simp only [newD]; omega⟩
structure TrN (l : List Nm) : Prop where
 par : ∀ x ∈ l, parL x.path ≠ [] → ∃ y ∈ l, y.path = parL x.path ∧ y.dir = true
 one : ∀ x ∈ l, ∀ y ∈ l, x.dir = false → y.dir = false → x.id = y.id → x = y
def Dk.Tr (d : Dk) : Prop := ∀ k, TrN (appAll d.sure (d.loose.take k))
end Sm
set_option maxRecDepth 10000
set_option maxHeartbeats 1000000
namespace Sm
open Go
def dirO (o : Option Nm) : Bool := match o with
 | some x => x.dir
 | none => false
def idO (o : Option Nm) : Nat := match o with
 | some x => x.id
 | none => 0
abbrev ndV (x : Nm) : HV := .ag [B x.dir, I x.id]
abbrev ndO (o : Option Nm) : HV := .ag [B (dirO o), I (idO o)]
def ndP : Option Nm → HV
 | none => .v (.pointer none)
 | some x => .rp [B x.dir, I x.id]
def chgV (c : Chg) : HV := .ag [.sl .no 1 (c.ps.map fun q => S q.1), .sl .no 1 (c.ps.map fun q => ndP q.2)]
def PM (H : Heap) (b : Nat) (l : List Nm) : Prop := ∃ m : List Nm, m.Perm l ∧ MP H b Nm.path ndV m
theorem PM.fr {H H' : Heap} {bs : List Nat} {b : Nat} {l : List Nm} (h : PM H b l) (hf : Fr bs H H') (hb : b ∉ bs) : PM H' b l := by
 obtain ⟨m, h1, h2⟩ := h; exact ⟨m, h1, h2.fr hf hb⟩
theorem PM.held {H : Heap} {b : Nat} {l : List Nm} (h : PM H b l) : ∃ r, H b = some r := by
 obtain ⟨m, h1, h2⟩ := h; exact h2.held
theorem r_lkpN {S' : SpecT} {sl : List (Nat × EV)} {bx : List (Nat × List HV)} {H : Heap} {K : Env → Heap → Prop} {os : List SOper} {d b : Nat} {x y : Opd} {l : List Nm} {p : List UInt8} (hM : PM H b l) (hn : SN l) (hx : (M sl bx).hvs [x, y] = some [.v (.map (some b)), S p])
   (h : rsem S' os (M ((d, .h (.tu [ndO (getN l p), B (getN l p).isSome])) :: sl) bx) H K) : rsem S' (⟨some d, .hop (.m (.lkp true true true [.v (.bool false), .v (.int .i64 0)])) [x, y], none⟩ :: os) (M sl bx) H K := by
 obtain ⟨m, h1, h2⟩ := hM
 have hg := getN_perm h1 hn.nd p
 refine r_mop hx (mp_lkp h2 p true true _ (z' := .tu [ndO none, B false]) ?_ ?_)
 · rw [← hg] at h
   unfold getN at h
   generalize List.find? (fun n => n.path == p) m = o at h ⊢
   cases o <;> exact h
 · simp only [okd, if_true, mzero]
   exact Weak.refl _
theorem r_lkpN1 {S' : SpecT} {sl : List (Nat × EV)} {bx : List (Nat × List HV)} {H : Heap} {K : Env → Heap → Prop} {os : List SOper} {d b : Nat} {x y : Opd} {l : List Nm} {p : List UInt8} (hM : PM H b l) (hn : SN l) (hx : (M sl bx).hvs [x, y] = some [.v (.map (some b)), S p])
   (h : rsem S' os (M ((d, .h (ndO (getN l p))) :: sl) bx) H K) : rsem S' (⟨some d, .hop (.m (.lkp true false true [.v (.bool false), .v (.int .i64 0)])) [x, y], none⟩ :: os) (M sl bx) H K := by
 obtain ⟨m, h1, h2⟩ := hM
 have hg := getN_perm h1 hn.nd p
 refine r_mop hx (mp_lkp h2 p false true _ (z' := ndO none) ?_ ?_)
 · rw [← hg] at h
   unfold getN at h
   generalize List.find? (fun n => n.path == p) m = o at h ⊢
   cases o <;> exact h
 · exact Weak.refl _
theorem lkc_ev {H : Heap} {b : Nat} {l : List Nm} {p : List UInt8} {e : Env} {x y : Opd} (hM : PM H b l) (hn : SN l) (hx : e.hv x = some (.v (.map (some b)))) (hy : e.hv y = some (S p)) :
   (SOp.lkc true false true [.v (.bool false), .v (.int .i64 0)] x y).ev e H = some (.h (ndO (getN l p))) := by
 obtain ⟨m, h1, ⟨st, c, h2, h3, h4⟩, h5⟩ := hM
 have hg := getN_perm h1 hn.nd p
 rw [← hg]
 simp only [SOp.ev, hx, hy, isKey, if_true, h2]
 rw [mfind_mp p m st h3 0]
 unfold getN
 rw [← findIdx_find]
 cases hf : List.findIdx? (fun a => a.path == p) m with
 | none => rfl
 | some j =>
   have hj : j < m.length := (List.findIdx?_eq_some_iff_getElem.mp hf).1
   simp only [Option.bind_some, List.getElem?_eq_getElem hj, Option.map_some]
   rfl
abbrev flC (f : Fl) : List HV := [.sl .no 1 (f.b.map U), I f.safe]
def flsC (l : List Fl) : List HV := l.flatMap flC
theorem flsC_len : ∀ l : List Fl, (flsC l).length = l.length * 2
 | [] => rfl
 | f :: l => by
   have := flsC_len l
   simp only [flsC, List.flatMap_cons, List.length_append, List.length_cons, List.length_nil] at this ⊢
   omega
theorem flsC_split {l : List Fl} {i : Nat} (h : i < l.length) : flsC l = flsC (l.take i) ++ flC l[i] ++ flsC (l.drop (i + 1)) := by
 have e := (List.take_append_drop i l).symm
 rw [List.drop_eq_getElem_cons h] at e
 exact (congrArg flsC e).trans (by simp only [flsC, List.flatMap_append, List.flatMap_cons, List.append_assoc])
theorem flsC_one (l : List Fl) : (flsC l).all HV.one = true := by
 rw [List.all_eq_true]
 intro x hx
 obtain ⟨f, _, hf⟩ := List.mem_flatMap.mp hx
 simp only [List.mem_cons, List.not_mem_nil, or_false] at hf
 rcases hf with rfl | rfl <;> rfl
theorem flsC_drop {l : List Fl} {i : Nat} (h : i < l.length) (zs : List HV) : (flsC l ++ zs).drop (i * 2) = flC l[i] ++ (flsC (l.drop (i + 1)) ++ zs) := by
 have hl : (flsC (l.take i)).length = i * 2 := by rw [flsC_len, List.length_take]; congr 1; omega
 rw [flsC_split h, List.append_assoc, List.append_assoc, List.drop_append_of_le_length (by omega), List.drop_of_length_le (by omega), List.nil_append]
theorem load_fl0 {l : List Fl} {i off : Nat} (h : i < l.length) (ho : off = i * 2) (zs : List HV) : loadv false 1 off (flsC l ++ zs) = some (.sl .no 1 (l[i].b.map U)) := by
 subst ho
 unfold loadv
 rw [if_pos (by rw [List.length_append, flsC_len]; omega), flsC_drop h]; rfl
theorem load_fl1 {l : List Fl} {i off : Nat} (h : i < l.length) (ho : off = i * 2 + 1) (zs : List HV) : loadv false 1 off (flsC l ++ zs) = some (I l[i].safe) := by
 subst ho
 unfold loadv
 have : (flsC l ++ zs).drop (i * 2 + 1) = I l[i].safe :: (flsC (l.drop (i + 1)) ++ zs) := by
   rw [← List.drop_drop, flsC_drop h]; rfl
 rw [if_pos (by rw [List.length_append, flsC_len]; omega), this]; rfl
def FS (H : Heap) (v : HV) (l : List Fl) : Prop := (v = .v (.slice none 0 0) ∧ l = []) ∨
 ∃ fb c zs, v = .v (.slice (some ⟨fb, 0, none⟩) l.length c) ∧ H fb = some (.obj (flsC l ++ zs)) ∧ l.length ≤ c ∧ c ≤ maxLen ∧ zs.length = (c - l.length) * 2 ∧ zs.all HV.one = true
def fvb : HV → List Nat
 | .v (.slice (some a) _ _) => [a.block]
 | _ => []
theorem FS.fr {H H' : Heap} {bs : List Nat} {v : HV} {l : List Fl} (h : FS H v l) (hf : Fr bs H H') (hb : ∀ a ∈ fvb v, a ∉ bs) : FS H' v l := by
 rcases h with h | ⟨fb, c, zs, rfl, h2, h3⟩
 · exact .inl h
 · exact .inr ⟨fb, c, zs, rfl, hf.get (hb fb (by simp [fvb])) h2, h3⟩
theorem FS.held {H : Heap} {v : HV} {l : List Fl} (h : FS H v l) : ∀ a ∈ fvb v, ∃ r, H a = some r := by
 rcases h with ⟨rfl, _⟩ | ⟨fb, c, zs, rfl, h2, h3⟩
 · simp [fvb]
 · intro a ha; simp only [fvb, List.mem_singleton] at ha; subst ha; exact ⟨_, h2⟩
structure Hd where
 ms : Nat
 mn : Nat
 fv : HV
def Hd.bs (h : Hd) (b : Nat) : List Nat := b :: h.ms :: h.mn :: fvb h.fv
structure KD (H : Heap) (b : Nat) (h : Hd) (d : Dk) : Prop where
 ob : H b = some (.obj [I d.room, .v (.map (some h.ms)), .v (.map (some h.mn)), .sl .no 2 (d.loose.map chgV), h.fv, B d.down, I d.ops, I d.fails, B d.done, I d.wrong])
 su : PM H h.ms d.sure
 no : PM H h.mn d.now
 fs : FS H h.fv d.f
 nd : (h.bs b).Nodup
theorem KD.fr {H H' : Heap} {bs : List Nat} {b : Nat} {h : Hd} {d : Dk} (k : KD H b h d) (hf : Fr bs H H') (hb : ∀ a ∈ h.bs b, a ∉ bs) : KD H' b h d :=
 ⟨hf.get (hb b (by simp [Hd.bs])) k.ob, k.su.fr hf (hb _ (by simp [Hd.bs])), k.no.fr hf (hb _ (by simp [Hd.bs])), k.fs.fr hf fun a ha => hb a (by simp [Hd.bs, ha]), k.nd⟩
theorem KD.fr0 {H H' : Heap} {b : Nat} {h : Hd} {d : Dk} (k : KD H b h d) (hf : Fr [] H H') : KD H' b h d := k.fr hf (by simp)
theorem KD.held {H : Heap} {b : Nat} {h : Hd} {d : Dk} (k : KD H b h d) : ∀ a ∈ h.bs b, ∃ r, H a = some r := by
 intro a ha
 simp only [Hd.bs, List.mem_cons] at ha
 rcases ha with rfl | rfl | rfl | ha
 · exact ⟨_, k.ob⟩
 · exact k.su.held
 · exact k.no.held
 · exact k.fs.held a ha
theorem KD.new {H : Heap} {b : Nat} {h : Hd} {d : Dk} (k : KD H b h d) {c : Nat} (hc : H c = none) : c ∉ h.bs b := fun hm => by
 obtain ⟨r, hr⟩ := k.held c hm
 rw [hc] at hr; cases hr
def fpV (v : HV) (i : Nat) : HV := match v with
 | .v (.slice (some ⟨b, off, none⟩) _ _) => .v (.pointer (some ⟨b, off + i * 2, none⟩))
 | _ => .v (.pointer none)
def askL : List (List UInt8) → Int
 | [] => 0
 | p :: ps => if chkP p ≠ 0 then chkP p else askL ps
def askD (d : Dk) (ps : List (List UInt8)) : Int := if d.down then 11 else askL ps
theorem askD_one (d : Dk) (p : List UInt8) : askD d [p] = d.asked p := by
 unfold askD Dk.asked
 split
 · rfl
 · simp only [askL]; split
   · rfl
   · rename_i h; simpa using (by simpa using h : chkP p = 0).symm
attribute [local irreducible] csem rsem dsem seqK blockK normK finK DK RK JK BR G3 resK Spec Tok Fr CV
theorem asked_spec (L : Linked code) (b : Nat) (h : Hd) (d : Dk) (tk : Tk) (ps : List (List UInt8)) (hp : ∀ p ∈ ps, p.length ≤ 1048576) (hl : ps.length ≤ 1048576) (H : Heap) (hD : KD H b h d) (K) (hk : ∀ X, Fr [] H X → K (I (askD d ps)) X) : Spec L.P L.ν 333 [ptr b, .sl tk 1 (ps.map S)] H K := by
 have ob := hD.ob
 unfold askD at hk
 refine go_spec L code333 rfl ?_
 repeat (refine gk entU ?_)
 cases c1 : d.down
 case true =>
   rw [c1] at hk
   repeat (refine gk entU ?_)
   exact resK_some (hk H (Fr.refl _ _))
 rw [c1] at hk
 simp only [Bool.false_eq_true, if_false] at hk
 repeat (refine gk entU ?_)
 refine c_loop (Spec_SMono L) (fun (i : Nat) => [(16, .h (.sl tk 1 (ps.map S))), (17, .h (I ps.length)), (18, .h (I i))]) (fun _ => []) (fun i X => i ≤ ps.length ∧ Fr [] H X ∧ askL (ps.drop i) = askL ps) (fun i => ps.length - i) 0 ?_ ⟨by omega, Fr.refl _ _, rfl⟩ ?_
 · (refine leM ?_ ?_ ?_ <;> (repeat refine leS trivial ?_) <;> exact leE)
 rintro i X ⟨hi, hf, ha⟩
 repeat (refine gk entU ?_)
 (refine ct entU ?_ ?_ <;> intro hc)
 · have hi' : i < ps.length := by simpa using hc
   rw [List.drop_eq_getElem_cons hi', askL] at ha
   repeat (refine gk entU ?_)
   (apply r_call; (focus rfl))
   refine pcheck_spec L ps[i] (hp _ (List.getElem_mem hi')) _ _ fun X1 f1 => ?_
   cases c2 : chkP ps[i] != 0
   case true =>
     have c2' : chkP ps[i] ≠ 0 := by simpa using c2
     rw [if_pos c2'] at ha
     rw [← ha] at hk
     repeat (refine gk (And.intro entU c2) ?_)
     exact resK_some (hk X1 (hf.trans f1))
   have c2' : ¬ chkP ps[i] ≠ 0 := by simpa using c2
   rw [if_neg c2'] at ha
   repeat (refine gk (And.intro entU c2) ?_)
   refine k_n (i + 1) (by omega) ⟨by omega, hf.trans f1, ha⟩ ?_
   (refine leM ?_ ?_ ?_ <;> (repeat refine leS trivial ?_) <;> exact leE)
 · have hi' : i = ps.length := by have : ¬ i < ps.length := by simpa using hc
                                  omega
   subst hi'
   rw [List.drop_length, askL] at ha
   rw [← ha] at hk
   repeat (refine gk entU ?_)
   exact resK_some (hk X hf)
theorem asked0_spec (L : Linked code) (b : Nat) (h : Hd) (d : Dk) (H : Heap) (hD : KD H b h d) (K) (hk : ∀ X, Fr [] H X → K (I (if d.down then 11 else 0)) X) : Spec L.P L.ν 333 [ptr b, .v (.slice none 0 0)] H K :=
 Spec.args (args' := [ptr b, .sl .full 1 (([] : List (List UInt8)).map S)]) ⟨Weak.refl _, Weak.nil 1, trivial⟩ (asked_spec L b h d .full [] (by simp) (by simp) H hD K hk)
theorem dparent_spec (L : Linked code) (b : Nat) (h : Hd) (d : Dk) (p : List UInt8) (hp : p.length ≤ 1048576) (hs : SN d.now) (H : Heap) (hD : KD H b h d) (K) (hk : K (I (parD d.now p)) H) : Spec L.P L.ν 350 [ptr b, S p] H K := by
 have ob := hD.ob
 unfold parD at hk
 refine go_spec L code350 rfl ?_
 repeat (refine gk entU ?_)
 (apply r_call; (focus rfl))
 refine parent_spec L p hp _ _ ?_
 repeat (refine gk entU ?_)
 cases c1 : (parL p == [])
 case true =>
   have c1' : parL p = [] := by simpa using c1
   rw [if_pos c1'] at hk
   repeat (refine gk entU ?_)
   exact resK_some hk
 have c1' : parL p ≠ [] := by simpa using c1
 rw [if_neg c1'] at hk
 repeat (refine gk entU ?_)
 apply r_lkpN hD.no hs; (focus rfl)
 repeat (refine gk entU ?_)
 cases c2 : getN d.now (parL p) with
 | none =>
   rw [c2] at hk
   simp only [Option.isSome_none, Bool.not_false]
   repeat (refine gk entU ?_)
   exact resK_some hk
 | some x =>
   rw [c2] at hk
   simp only [Option.isSome_some, Bool.not_true]
   repeat (refine gk entU ?_)
   simp only [dirO] at hk ⊢
   cases c3 : x.dir
   case true =>
     rw [c3] at hk
     simp only [Bool.not_true]
     repeat (refine gk entU ?_)
     exact resK_some hk
   rw [c3] at hk
   simp only [Bool.not_false]
   repeat (refine gk entU ?_)
   exact resK_some hk
theorem dfile_spec (L : Linked code) (b : Nat) (h : Hd) (d : Dk) (p : List UInt8) (hs : SN d.now) (hid : ∀ x ∈ d.now, x.dir = false → x.id < d.f.length) (H : Heap) (hD : KD H b h d) (K) (hk : K (.tu [if fileD d.now p = 0 then fpV h.fv (idD d.now p) else .v (.pointer none), I (fileD d.now p)]) H) : Spec L.P L.ν 332 [ptr b, S p] H K := by
 have ob := hD.ob
 unfold fileD idD at hk
 refine go_spec L code332 rfl ?_
 repeat (refine gk entU ?_)
 apply r_lkpN hD.no hs; (focus rfl)
 repeat (refine gk entU ?_)
 cases c2 : getN d.now p with
 | none =>
   rw [c2] at hk
   simp only [Option.isSome_none, Bool.not_false]
   repeat (refine gk entU ?_)
   exact resK_some hk
 | some x =>
   rw [c2] at hk
   simp only [Option.isSome_some, Bool.not_true]
   repeat (refine gk entU ?_)
   simp only [dirO, idO] at hk ⊢
   cases c3 : x.dir
   case true =>
     rw [c3] at hk
     repeat (refine gk entU ?_)
     exact resK_some hk
   rw [c3] at hk
   have hlt := hid x (getN_mem c2).1 c3
   rcases hD.fs with ⟨_, h0⟩ | ⟨fb, c, zs, e1, h1, _⟩
   · rw [h0] at hlt; exact absurd hlt (Nat.not_lt_zero _)
   rw [e1] at ob hk
   repeat (refine gk entU ?_)
   apply r_idxO; (focus rfl); (focus rfl); (focus omega)
   repeat (refine gk entU ?_)
   refine resK_some ?_
   show K (.tu [_, _]) H
   simpa [fpV] using hk
end Sm
namespace Sm
open Go
theorem dkU : (∀ e : Ent, encE e = .ag [S e.path, B e.dir, .sl .no 1 (e.data.map U)]) ∧ ndP none = .v (.pointer none) ∧ (∀ x, ndP (some x) = .rp [B x.dir, I x.id]) ∧ (∀ c, chgV c = .ag [.sl .no 1 (c.ps.map fun q => S q.1), .sl .no 1 (c.ps.map fun q => ndP q.2)]) := ⟨fun _ => rfl, rfl, fun _ => rfl, fun _ => rfl⟩
theorem sub_upd {X : Heap} {b : Nat} {cs' cs : List HV} (hx : X b = some (.obj cs')) (hw : WeakL cs' cs) (h1 : cs.all HV.one = true) : (X.upd b (some (.obj cs))).sub X := by
 intro a r hr
 by_cases h : a = b
 · subst h
   rw [Heap.upd_same] at hr; cases hr
   exact ⟨_, hx, .inr ⟨hw, h1⟩⟩
 · rw [Heap.upd_ne _ _ h] at hr
   exact ⟨r, hr, .inl rfl⟩
def Dk.ctr (d : Dk) (ops : Nat) (fails wrong : Int) (down : Bool) : Dk := { d with ops := ops, fails := fails, wrong := wrong, down := down }
theorem KD.cell {H X : Heap} {b : Nat} {h : Hd} {d d' : Dk} (k : KD H b h d) (hf : Fr [b] H X) (hx : X b = some (.obj [I d'.room, .v (.map (some h.ms)), .v (.map (some h.mn)), .sl .no 2 (d'.loose.map chgV), h.fv, B d'.down, I d'.ops, I d'.fails, B d'.done, I d'.wrong]))
   (e1 : d'.sure = d.sure) (e2 : d'.now = d.now) (e3 : d'.f = d.f) : KD X b h d' := by
 have hn := k.nd
 simp only [Hd.bs, List.nodup_cons, List.mem_cons, not_or] at hn
 refine ⟨hx, by rw [e1]; exact k.su.fr hf (by simpa using fun e => hn.1.1 e.symm), by rw [e2]; exact k.no.fr hf (by simpa using fun e => hn.1.2.1 e.symm), by rw [e3]; exact k.fs.fr hf (fun a ha hm => by rw [List.mem_singleton] at hm; subst hm; exact hn.1.2.2 ha), k.nd⟩
theorem Own.cell {H X : Heap} {b : Nat} {h : Hd} (hf : Fr [b] H X) : Own H X (h.bs b) (h.bs b) := Own.set hf (by simp [Hd.bs])
theorem load_at {cs : List HV} {off : Nat} {v : HV} (h : cs[off]? = some v) : loadv false 1 off cs = some v := by
 obtain ⟨hl, he⟩ := List.getElem?_eq_some_iff.mp h
 unfold loadv
 rw [if_pos (by omega), List.drop_eq_getElem_cons hl, he]; rfl
theorem r_slcT {S' : SpecT} {sl : List (Nat × EV)} {bx : List (Nat × List HV)} {H : Heap} {K : Env → Heap → Prop} {os : List SOper} {d : Nat} {sz : Nat} {x hi mx : Opd} {tk : Tk} {es : List HV} {n n' : Int} {k : Nat} (hx : (M sl bx).hv x = some (.sl tk sz es)) (h1 : (M sl bx).hv hi = some (I n)) (h2 : (M sl bx).hv mx = some (I n')) (e1 : n = k) (e2 : n' = k) (hk : k ≤ es.length)
   (h : rsem S' os (M ((d, .h (.sl .full sz (es.take k))) :: sl) bx) H K) : rsem S' (⟨some d, .slc sz x none (some hi) (some mx), none⟩ :: os) (M sl bx) H K := by
 subst e1 e2
 refine r_calm rfl ?_ h
 simp only [SOp.ev, hx, bnd, h1, h2]
 rw [if_pos ⟨trivial, by omega, by omega, by omega⟩]
 simp
theorem ps_path : ∀ {c : Chg} {q : List UInt8 × Option Nm}, q ∈ c.ps → ∀ x, q.2 = some x → x.path = q.1 := by
 intro c q hq x hx
 cases c with
 | mk y => simp only [Chg.ps, List.mem_singleton] at hq; subst hq; cases hx; rfl
 | rm y => simp only [Chg.ps, List.mem_singleton] at hq; subst hq; cases hx
 | mv y z p =>
   simp only [Chg.ps, List.mem_cons, List.not_mem_nil, or_false] at hq
   rcases hq with rfl | rfl
   · cases hx
   · cases hx; rfl
theorem ps_len (c : Chg) : c.ps.length ≤ 2 := by cases c <;> simp [Chg.ps]
attribute [local irreducible] csem rsem dsem seqK blockK normK finK DK RK JK BR G3 resK Spec Tok Fr CV
theorem tick_spec (L : Linked code) (b off : Nat) (cs : List HV) (n : Int) (hn : -1 ≤ n ∧ n ≤ 9223372036854775807) (H : Heap) (hb : H b = some (.obj cs)) (hc : cs[off]? = some (I n)) (K) (hk : ∀ X, X b = some (.obj (cs.set off (I (tickD n)))) → Fr [b] H X → K (B (n == 0)) X) :
   Spec L.P L.ν 365 [.v (.pointer (some ⟨b, off, none⟩))] H K := by
 have hl := load_at hc
 have hlt : off < cs.length := (List.getElem?_eq_some_iff.mp hc).1
 refine go_spec L code365 rfl ?_
 repeat (refine gk dkU ?_)
 apply r_load; (focus rfl); (focus exact hb); (focus exact hl)
 repeat (refine gk dkU ?_)
 cases c1 : (n == -1)
 case true =>
   have c1' : n = -1 := by simpa using c1
   subst c1'
   repeat (refine gk (And.intro dkU c1) ?_)
   refine resK_some (hk H ?_ (Fr.refl _ _))
   have : cs.set off (I (tickD (-1))) = cs := by
     apply List.ext_getElem?
     intro i
     rw [List.getElem?_set]
     split
     · rename_i e; subst e; rw [hc]; rfl
     · rfl
   rw [this]; exact hb
 have c1' : n ≠ -1 := by simpa using c1
 have ht : tickD n = n - 1 := if_neg c1'
 repeat (refine gk (And.intro dkU c1) ?_)
 apply r_load; (focus rfl); (focus exact hb); (focus exact hl)
 repeat (refine gk dkU ?_)
 apply r_storeX; (focus rfl); (focus rfl); (focus rfl); (focus rfl); (focus exact hb); (focus exact Nat.ble_eq.mpr hlt); (focus rfl)
 intro X x1 f1
 repeat (refine gk dkU ?_)
 have x1' : X b = some (.obj (cs.set off (I (n - 1)))) := x1
 have hl2 : loadv false 1 off (cs.set off (I (n - 1))) = some (I (n - 1)) := load_at (by rw [List.getElem?_set_self hlt])
 apply r_load; (focus rfl); (focus exact x1'); (focus exact hl2)
 repeat (refine gk dkU ?_)
 have e : (n - 1 == -1) = (n == 0) := by
   by_cases h : n = 0
   · subst h; rfl
   · rw [beq_false_of_ne h, beq_false_of_ne (by omega)]
 rw [e]
 repeat (refine gk dkU ?_)
 exact resK_some (hk X (by rw [ht]; exact x1') f1)
theorem apply_spec' (L : Linked code) (b : Nat) (l : List Nm) (c : Chg) (hs : SN l) (hc : okC l c) (H : Heap) (hM : PM H b l) (K) (hk : ∀ X, PM X b (appC l c) → Fr [b] H X → K (.tu []) X) : Spec L.P L.ν 330 [.v (.map (some b)), chgV c] H K := by
 obtain ⟨m, hp, hm⟩ := hM
 have hfin := apM_perm hp hs hc
 have hlen := ps_len c
 refine go_spec L code330 rfl ?_
 repeat (refine gk dkU ?_)
 refine c_loop (Spec_SMono L) (fun (i : Nat) => [(0, .h (.v (.map (some b)))), (3, .lp 0 0), (7, .h (.sl .no 1 (c.ps.map fun q => S q.1))), (8, .h (I c.ps.length)), (9, .h (I i))]) (fun _ => [(0, [.sl .no 1 (c.ps.map fun q => S q.1), .sl .no 1 (c.ps.map fun q => ndP q.2)])])
   (fun i X => i ≤ c.ps.length ∧ Fr [b] H X ∧ MP X b Nm.path ndV ((c.ps.take i).foldl apM m)) (fun i => c.ps.length - i) 0 ?_ ⟨by omega, Fr.refl _ _, by simpa using hm⟩ ?_
 · (refine leM ?_ ?_ ?_ <;> (repeat refine leS trivial ?_) <;> exact leE)
 rintro i X ⟨hi, hf, hX⟩
 repeat (refine gk dkU ?_)
 (refine ct dkU ?_ ?_ <;> intro hcc)
 · have hi' : i < c.ps.length := by simpa using hcc
   have ht : (c.ps.take (i + 1)).foldl apM m = apM ((c.ps.take i).foldl apM m) c.ps[i] := by
     rw [List.take_succ_eq_append_getElem hi', List.foldl_append]; rfl
   have hq := ps_path (List.getElem_mem hi')
   generalize hg : c.ps[i] = q at ht hq
   obtain ⟨p, o⟩ := q
   cases o with
   | none =>
     repeat (refine gk (And.intro dkU hg) ?_)
     refine r_mop0 rfl (mp_del hX p fun X1 h1 f1 => ?_)
     repeat (refine gk dkU ?_)
     refine k_n (i + 1) (by omega) ⟨by omega, hf.trans f1, by rw [ht]; exact h1⟩ ?_
     (refine leM ?_ ?_ ?_ <;> (repeat refine leS trivial ?_) <;> exact leE)
   | some x =>
     have hxp : x.path = p := hq x rfl
     subst hxp
     repeat (refine gk (And.intro dkU hg) ?_)
     refine r_mop0 rfl (mp_upd hX x fun X1 h1 f1 => ?_)
     repeat (refine gk dkU ?_)
     refine k_n (i + 1) (by omega) ⟨by omega, hf.trans f1, by rw [ht]; exact h1⟩ ?_
     (refine leM ?_ ?_ ?_ <;> (repeat refine leS trivial ?_) <;> exact leE)
 · have hi' : i = c.ps.length := by have : ¬ i < c.ps.length := by simpa using hcc
                                    omega
   subst hi'
   rw [List.take_length] at hX
   repeat (refine gk dkU ?_)
   exact resK_some (hk X ⟨_, hfin, hX⟩ hf)
theorem drename_spec (L : Linked code) (b : Nat) (h : Hd) (d : Dk) (c : Chg) (hs : SN d.now) (hc : okC d.now c) (hl : d.loose.length < 1048576) (H : Heap) (hD : KD H b h d) (K) (hk : ∀ X, KD X b h (d.chg c) → Own H X (h.bs b) (h.bs b) → K (.tu []) X) : Spec L.P L.ν 364 [ptr b, chgV c] H K := by
 have ob := hD.ob
 have hn := hD.nd
 simp only [Hd.bs, List.nodup_cons, List.mem_cons, not_or] at hn
 refine go_spec L code364 rfl ?_
 repeat (refine gk dkU ?_)
 (apply r_call; (focus rfl))
 refine apply_spec' L h.mn d.now c hs hc H hD.no _ fun X1 m1 f1 => ?_
 have ob1 := f1.get (a := b) (by simpa using hn.1.2.1) ob
 repeat (refine gk dkU ?_)
 apply r_slcT (k := (d.loose.map chgV).length); (focus rfl); (focus rfl); (focus rfl); (focus simp); (focus simp); (focus exact Nat.le_refl _)
 rw [List.take_length]
 repeat (refine gk dkU ?_)
 apply r_app; (focus rfl); (focus rfl); (focus exact Tok.ful2 _ _ _); (focus (simp; omega))
 intro tk X2 k1 k2
 have f2 := k2.fr0
 have ob2 := f2.get (by simp) ob1
 repeat (refine gk dkU ?_)
 refine sxk dkU ?_
 intro X3 x3 f3
 repeat (refine gk dkU ?_)
 have e3 : (d.loose.map chgV) ++ [chgV c] = (d.chg c).loose.map chgV := by simp [Dk.chg]
 have x3' : X3 b = some (.obj [I d.room, .v (.map (some h.ms)), .v (.map (some h.mn)), .sl tk 2 ((d.chg c).loose.map chgV), h.fv, B d.down, I d.ops, I d.fails, B d.done, I d.wrong]) := by rw [← e3]; exact x3
 refine resK_sub (Weak.refl _) (sub_upd (cs := [I d.room, .v (.map (some h.ms)), .v (.map (some h.mn)), .sl .no 2 ((d.chg c).loose.map chgV), h.fv, B d.down, I d.ops, I d.fails, B d.done, I d.wrong]) x3' ⟨Weak.refl _, Weak.refl _, Weak.refl _, Weak.drop _ _ _, Weak.refl _, Weak.refl _, Weak.refl _, Weak.refl _, Weak.refl _, Weak.refl _, trivial⟩ ?_) (hk _ ?_ ?_)
 · rcases hD.fs with ⟨e, _⟩ | ⟨fb, c, zs, e, _⟩ <;> rw [e] <;> rfl
 · have f4 : Fr [b] X1 (X3.upd b (some (.obj [I d.room, .v (.map (some h.ms)), .v (.map (some h.mn)), .sl .no 2 ((d.chg c).loose.map chgV), h.fv, B d.down, I d.ops, I d.fails, B d.done, I d.wrong]))) := ((f2.mono (by simp)).trans f3).trans (Fr.set (by simp))
   have hbb : ∀ a, a ≠ b → a ∉ [b] := fun a h => by simpa using h
   refine ⟨Heap.upd_same _ _ _, (hD.su.fr f1 (by simpa using hn.2.1.1)).fr f4 (hbb _ fun e => hn.1.1 e.symm), ?_, (hD.fs.fr f1 fun a ha hm => ?_).fr f4 fun a ha hm => ?_, hD.nd⟩
   · have : (d.chg c).now = appC d.now c := appAll_snoc _ _ _
     rw [this]
     exact m1.fr f4 (hbb _ fun e => hn.1.2.1 e.symm)
   · rw [List.mem_singleton] at hm; subst hm; exact hn.2.2.1 ha
   · rw [List.mem_singleton] at hm; subst hm; exact hn.1.2.2 ha
 · refine Own.set (cs := [b, h.mn]) ?_ (by simp [Hd.bs])
   exact ((f1.mono (by simp)).trans (f2.mono (by simp))).trans ((f3.mono (by simp)).trans (Fr.set (by simp)))
theorem step_spec (L : Linked code) (b : Nat) (h : Hd) (d next : Dk) (ho : d.ops < 4611686018427387904) (hfa : -1 ≤ d.fails ∧ d.fails ≤ 9223372036854775807) (hwr : -1 ≤ d.wrong ∧ d.wrong ≤ 9223372036854775807) (hdn : next.down = d.down) (f : HV) (H : Heap) (hD : KD H b h d)
   (hdo : ∀ ops fails wrong down X, KD X b h (d.ctr ops fails wrong down) → Own H X (h.bs b) (h.bs b) → ∀ K, (∀ Y h' r, KD Y b h' (next.ctr ops fails wrong down) → Own X Y (h.bs b) (h'.bs b) → K r Y) → CV L f [] X K)
   (K) (hk : ∀ Y h', KD Y b h' (d.step next).1 → Own H Y (h.bs b) (h'.bs b) → K (I (d.step next).2) Y) : Spec L.P L.ν 335 [ptr b, f] H K := by
 have ob := hD.ob
 have tb := tickD_ok hfa
 unfold Dk.step at hk
 refine go_spec L code335 rfl ?_
 repeat (refine gk dkU ?_)
 refine sxk dkU ?_
 intro X1 x1 f1
 have d1 : KD X1 b h (d.ctr (d.ops + 1) d.fails d.wrong d.down) := hD.cell f1 x1 rfl rfl rfl
 have ob1 := d1.ob
 repeat (refine gk dkU ?_)
 (apply r_call; (focus rfl))
 refine tick_spec L b _ _ d.fails hfa X1 ob1 rfl _ fun X2 x2 f2 => ?_
 have d2 : KD X2 b h (d.ctr (d.ops + 1) (tickD d.fails) d.wrong d.down) := d1.cell f2 x2 rfl rfl rfl
 have ob2 := d2.ob
 repeat (refine gk dkU ?_)
 (apply r_call; (focus rfl))
 refine tick_spec L b _ _ d.wrong hwr X2 ob2 rfl _ fun X3 x3 f3 => ?_
 have d3 : KD X3 b h (d.ctr (d.ops + 1) (tickD d.fails) (tickD d.wrong) d.down) := d2.cell f3 x3 rfl rfl rfl
 have ob3 := d3.ob
 have o3 : Own H X3 (h.bs b) (h.bs b) := Own.cell ((f1.trans f2).trans f3)
 repeat (refine gk dkU ?_)
 cases c1 : (d.fails == 0)
 case true =>
   have c1' : d.fails = 0 := by simpa using c1
   rw [if_pos c1'] at hk
   repeat (refine gk dkU ?_)
   refine sxk dkU ?_
   intro X4 x4 f4
   have d4 : KD X4 b h (d.ctr (d.ops + 1) (tickD d.fails) (tickD d.wrong) true) := d3.cell f4 x4 rfl rfl rfl
   have ob4 := d4.ob
   have o4 := o3.trans (Own.cell (h := h) f4)
   repeat (refine gk dkU ?_)
   cases c2 : d.done
   case false =>
     have e : (d.ctr (d.ops + 1) (tickD d.fails) (tickD d.wrong) true).done = false := c2
     rw [c2] at hk
     simp only [Bool.false_eq_true, if_false] at hk
     rw [e]
     repeat (refine gk dkU ?_)
     exact resK_some (hk X4 h (by have d5 := d4; unfold Dk.ctr at d5; rw [c2] at d5; exact d5) o4)
   have e : (d.ctr (d.ops + 1) (tickD d.fails) (tickD d.wrong) true).done = true := c2
   rw [c2] at hk
   simp only [if_true] at hk
   rw [e]
   repeat (refine gk dkU ?_)
   refine r_callF L rfl rfl ?_
   refine hdo _ _ _ _ X4 d4 o4 _ fun Y h' r d5 o5 => ?_
   repeat (refine gk dkU ?_)
   exact resK_some (hk Y h' d5 (o4.trans o5))
 have c1' : d.fails ≠ 0 := by simpa using c1
 rw [if_neg c1'] at hk
 repeat (refine gk dkU ?_)
 cases c2 : (d.wrong == 0)
 case true =>
   have c2' : d.wrong = 0 := by simpa using c2
   rw [if_pos c2'] at hk
   repeat (refine gk dkU ?_)
   exact resK_some (hk X3 h d3 o3)
 have c2' : d.wrong ≠ 0 := by simpa using c2
 rw [if_neg c2'] at hk
 repeat (refine gk dkU ?_)
 refine r_callF L rfl rfl ?_
 refine hdo _ _ _ _ X3 d3 o3 _ fun Y h' r d5 o5 => ?_
 rw [← hdn] at d5
 repeat (refine gk dkU ?_)
 exact resK_some (hk Y h' d5 (o3.trans o5))
end Sm
namespace Sm
open Go
theorem Spec.sub {P : Program} {ν : Nat → Option Nat} {g : Nat} {args : List HV} {X X' : Heap} {Q : HV → Heap → Prop} (hs : X'.sub X) (h : Spec P ν g args X' Q) : Spec P ν g args X Q := by
 intro n hn w K us hst hr
 refine (h n hn w K us (hsat_sub hst hs) hr).mono fun e w' ⟨u, r, Y, K', e1, e2, e3, e4, e5⟩ => ?_
 exact ⟨u, r, Y, K', e1, e2, e3, ⟨e4.os, e4.tape, e4.output, e4.size, e4.drawn, e4.grow, fun b hb hX => e4.same b hb (sub_none hs hX)⟩, e5⟩
theorem r_appF {S' : SpecT} {sl : List (Nat × EV)} {bx : List (Nat × List HV)} {H : Heap} {K : Env → Heap → Prop} {os : List SOper} {d : Nat} {x y : Opd} {tk : Tk} {v : HV} {l : List Fl} (hx : (M sl bx).hv x = some v) (hy : (M sl bx).hv y = some (.sl tk 2 [.ag [.v (.slice none 0 0), I 0]])) (hF : FS H v l) (hl : l.length < 1048576)
   (hk : ∀ fb c zs X, X fb = some (.obj (flsC l ++ [.v (.slice none 0 0), I 0] ++ zs)) → l.length + 1 ≤ c → c ≤ maxLen → zs.length = (c - (l.length + 1)) * 2 → zs.all HV.one = true → Fr (fvb v) H X → (fb ∈ fvb v ∨ H fb = none) → rsem S' os (M ((d, .h (.v (.slice (some ⟨fb, 0, none⟩) (l.length + 1) c))) :: sl) bx) X K) :
   rsem S' (⟨some d, .app 2 32 x y, none⟩ :: os) (M sl bx) H K := by
 have hr : rdm H 2 (.sl tk 2 [.ag [.v (.slice none 0 0), I 0]]) = some (1, [.v (.slice none 0 0), I 0]) := rfl
 rcases hF with ⟨rfl, rfl⟩ | ⟨fb, c, zs, rfl, h1, h2, h3, h4, h5⟩
 · refine r_appN hx hy hr (by decide) (by decide) fun b' c' zs X k1 k2 k3 k4 k5 k6 k7 => ?_
   exact hk b' c' zs X k6 k2 k3 k4 k5 (k7.mono (by simp)) (.inr k1)
 · refine r_appO hx hy hr h1 h2 (by rw [List.length_append, flsC_len, h4]; omega) (by omega) (fun hc X k1 k2 => ?_) fun hc b' c' zs' X k1 k2 k3 k4 k5 k6 k7 => ?_
   · refine hk fb c (zs.drop 2) X ?_ hc h3 (by rw [List.length_drop]; omega) (List.all_eq_true.mpr fun x hx => List.all_eq_true.mp h5 x (List.mem_of_mem_drop hx)) (k2.mono (by simp [fvb])) (.inl (by simp [fvb]))
     rw [k1]
     congr 2
     rw [setL_eq _ _ _ (by simp only [List.length_append, flsC_len, List.length_cons, List.length_nil]; omega)]
     have e1 : (flsC l ++ zs).take (0 + l.length * 2) = flsC l := by rw [Nat.zero_add, ← flsC_len, List.take_left]
     rw [e1]
     congr 1
     rw [Nat.zero_add, ← flsC_len, List.drop_append]
     have e2 : (flsC l).drop ((flsC l).length + [HV.v (Value.slice none 0 0), I 0].length) = [] := List.drop_eq_nil_of_le (by omega)
     rw [e2, List.nil_append]
     congr 1
     simp
   · refine hk b' c' zs' X ?_ k2 k3 k4 k5 (k7.mono (by simp)) (.inr k1)
     rw [k6]
     have e1 : ((flsC l ++ zs).drop 0).take (l.length * 2) = flsC l := by rw [List.drop_zero, ← flsC_len, List.take_left]
     rw [e1]
theorem WeakL.app : ∀ {a b c d : List HV}, WeakL a b → WeakL c d → WeakL (a ++ c) (b ++ d)
 | [], [], _, _, _, h => h
 | x :: a, y :: b, _, _, h, k => ⟨h.1, WeakL.app h.2 k⟩
 | [], _ :: _, _, _, h, _ => h.elim
 | _ :: _, [], _, _, h, _ => h.elim
theorem Own.sub {H X : Heap} {bs bs' cs : List Nat} (h : Own H X bs bs') (hs : ∀ a ∈ cs, a ∈ bs') : Own H X bs cs := ⟨h.fr, fun a ha => h.nw a (hs a ha)⟩
attribute [local irreducible] csem rsem dsem seqK blockK normK finK DK RK JK BR G3 resK Spec Tok Fr CV
theorem dput1_spec (L : Linked code) (b c3 c4 c5 : Nat) (h : Hd) (d : Dk) (p : List UInt8) (dir : Bool) (hs : SN d.now) (hlen : d.loose.length < 1048576) (hfl : d.f.length < 1048576) (hp : getN d.now p = none) (X : Heap) (hD : KD X b h d) (x3 : X c3 = some (.obj [ptr b])) (x4 : X c4 = some (.obj [S p])) (x5 : X c5 = some (.obj [B dir]))
   (n3 : c3 ∉ h.bs b) (n4 : c4 ∉ h.bs b) (n5 : c5 ∉ h.bs b)
   (K) (hk : ∀ Y h' r, KD Y b h' (Dk.chg { d with f := if dir then d.f else d.f ++ [⟨[], 0⟩] } (.mk ⟨p, dir, if dir then 0 else d.f.length⟩)) → Own X Y (h.bs b) (h'.bs b) → K r Y) : Spec L.P L.ν 366 [ptr c5, ptr c3, ptr c4] X K := by
 have hok : okC d.now (.mk ⟨p, dir, if dir then 0 else d.f.length⟩) := ⟨fun z hz n hn he => by
   simp only [Chg.came, List.mem_singleton] at hz; subst hz; exact absurd he (getN_none hp n hn), trivial⟩
 refine go_spec L code366 rfl ?_
 repeat (refine gk dkU ?_)
 refine bxk dkU ?_
 intro cx X1 hcx x1 f1 _
 have nx := hD.new hcx
 have hD1 := hD.fr0 f1
 have ob1 := hD1.ob
 have x3' := f1.get (by simp) x3
 have x4' := f1.get (by simp) x4
 have x5' := f1.get (by simp) x5
 cases dir with
 | true =>
   simp only [if_true] at hk hok
   repeat (refine gk dkU ?_)
   try simp only [Bool.not_true]
   repeat (refine gk dkU ?_)
   (apply r_call; (focus rfl))
   refine Spec.lay (b := cx) x1 (args' := [ptr b, chgV (.mk ⟨p, true, 0⟩)]) ⟨FW.refl _ _ _, FW.ag (ys := [.sl .no 1 [S p], .sl .no 1 [.rp [B true, I 0]]]) ⟨FW.of (Weak.drop _ _ _), FW.sl ⟨FW.ptr, trivial⟩ rfl (by simp [HV.ncells]), trivial⟩ rfl, trivial⟩ ?_
   refine drename_spec L b h d _ hs hok (by omega) _ ?_ _ fun Y hY oY => ?_
   · exact hD1.fr (bs := [cx]) (Fr.set (by simp)) (fun a ha hm => by rw [List.mem_singleton] at hm; subst hm; exact nx ha)
   repeat (refine gk dkU ?_)
   refine resK_some (hk Y h _ hY (Own.ahead (c := cx) hcx f1 ?_))
   have o1 : Own X1 (X1.upd cx none) (cx :: h.bs b) (h.bs b) := ⟨Fr.set (by simp), fun a ha => .inl (by simp [ha])⟩
   exact o1.trans oY
 | false =>
   simp only [Bool.false_eq_true, if_false] at hk hok
   have hlenF : ∀ (K' : Env → Heap → Prop) (sl : List (Nat × EV)) (bx : List (Nat × List HV)) (os : List SOper) (dd : Nat) (xx : Opd), (M sl bx).hv xx = some h.fv → rsem (Spec L.P L.ν) os (M ((dd, .h (I d.f.length)) :: sl) bx) X1 K' → rsem (Spec L.P L.ν) (⟨some dd, .len xx, none⟩ :: os) (M sl bx) X1 K' := by
     intro K' sl bx os dd xx hxx hr
     refine r_calm rfl ?_ hr
     rcases hD1.fs with ⟨e1, e2⟩ | ⟨fb, c, zs, e1, _⟩
     · rw [e1] at hxx; simp only [SOp.ev, hxx, e2]; rfl
     · rw [e1] at hxx; simp only [SOp.ev, hxx]
   try simp only [Bool.not_false]
   repeat (refine gk dkU ?_)
   try simp only [Bool.not_false]
   repeat (refine gk dkU ?_)
   refine hlenF _ _ _ _ _ _ rfl ?_
   repeat (refine gk dkU ?_)
   refine sxk dkU ?_
   intro X2 x2 f2
   have hD2 := hD1.fr (bs := [cx]) f2 (fun a ha hm => by rw [List.mem_singleton] at hm; subst hm; exact nx ha)
   have ob2 := hD2.ob
   have n3x : c3 ≠ cx := fun e => by subst e; rw [hcx] at x3; cases x3
   have n4x : c4 ≠ cx := fun e => by subst e; rw [hcx] at x4; cases x4
   have x3'' := f2.get (by simpa using n3x) x3'
   have x4'' := f2.get (by simpa using n4x) x4'
   repeat (refine gk dkU ?_)
   refine r_appF rfl rfl hD2.fs (by omega) fun fb c zs X3 k1 k2 k3 k4 kz k5 k6 => ?_
   have hfv : ∀ a ∈ fvb h.fv, a ∈ h.bs b := fun a ha => by simp [Hd.bs, ha]
   have hnd := hD.nd
   simp only [Hd.bs, List.nodup_cons, List.mem_cons, not_or] at hnd
   obtain ⟨⟨q1, q2, q3⟩, ⟨q4, q5⟩, q6, q7⟩ := hnd
   have hfb : fb ≠ b ∧ fb ≠ h.ms ∧ fb ≠ h.mn := by
     rcases k6 with k6 | k6
     · exact ⟨fun e => q3 (e ▸ k6), fun e => q5 (e ▸ k6), fun e => q6 (e ▸ k6)⟩
     · have := hD2.new k6
       simp only [Hd.bs, List.mem_cons, not_or] at this
       exact ⟨this.1, this.2.1, this.2.2.1⟩
   have hfx : fb ≠ cx := by
     rcases k6 with k6 | k6
     · exact fun e => nx (e ▸ hfv _ k6)
     · exact fun e => by rw [e, x2] at k6; cases k6
   have g3 := k5.get (fun hm => n3 (hfv _ hm)) x3''
   have g4 := k5.get (fun hm => n4 (hfv _ hm)) x4''
   have gx := k5.get (fun hm => nx (hfv _ hm)) x2
   have gb := k5.get q3 ob2
   repeat (refine gk dkU ?_)
   refine sxk dkU ?_
   intro X4 y4 f4
   have n3b : c3 ≠ b := fun e => n3 (by simp [Hd.bs, e])
   have n4b : c4 ≠ b := fun e => n4 (by simp [Hd.bs, e])
   have nxb : cx ≠ b := fun e => nx (by simp [Hd.bs, e])
   have g3' := f4.get (by simpa using n3b) g3
   have g4' := f4.get (by simpa using n4b) g4
   have gx' := f4.get (by simpa using nxb) gx
   have kf := f4.get (by simpa using hfb.1) k1
   repeat (refine gk dkU ?_)
   (apply r_call; (focus rfl))
   refine Spec.lay (b := cx) gx' (args' := [ptr b, chgV (.mk ⟨p, false, d.f.length⟩)]) ⟨FW.refl _ _ _, FW.ag (ys := [.sl .no 1 [S p], .sl .no 1 [.rp [B false, I d.f.length]]]) ⟨FW.of (Weak.drop _ _ _), FW.sl ⟨FW.ptr, trivial⟩ rfl (by simp [HV.ncells]), trivial⟩ rfl, trivial⟩ ?_
   have kf2 : (X4.upd cx none) fb = some (.obj (flsC d.f ++ [.v (.slice none 0 0), I 0] ++ zs)) := by rw [Heap.upd_ne _ _ hfx]; exact kf
   refine Spec.sub (sub_upd (cs := flsC (d.f ++ [⟨[], 0⟩]) ++ zs) kf2 ?_ ?_) ?_
   · have : flsC (d.f ++ [⟨[], 0⟩]) = flsC d.f ++ [.sl .no 1 [], I 0] := by simp [flsC]
     rw [this]
     exact WeakL.app (WeakL.app (WeakL.refl _) ⟨Weak.nil' 1, Weak.refl _, trivial⟩) (WeakL.refl _)
   · rw [List.all_append, flsC_one, kz]; rfl
   generalize hX5 : (X4.upd cx none).upd fb (some (.obj (flsC (d.f ++ [⟨[], 0⟩]) ++ zs))) = X5
   have o5 : Own X1 X5 (cx :: h.bs b) ((⟨h.ms, h.mn, .v (.slice (some ⟨fb, 0, none⟩) (d.f.length + 1) c)⟩ : Hd).bs b) := by
     have o2 : Own X1 X2 (cx :: h.bs b) (cx :: h.bs b) := Own.set f2 (by simp)
     have o3 : Own X2 X3 (cx :: h.bs b) (cx :: (⟨h.ms, h.mn, .v (.slice (some ⟨fb, 0, none⟩) (d.f.length + 1) c)⟩ : Hd).bs b) := by
       refine ⟨k5.mono fun a ha => by simp [hfv a ha], fun a ha => ?_⟩
       simp only [Hd.bs, fvb, List.mem_cons, List.not_mem_nil, or_false] at ha ⊢
       rcases ha with rfl | rfl | rfl | rfl | rfl
       · simp
       · simp
       · simp
       · simp
       · rcases k6 with k6 | k6
         · exact .inl (.inr (.inr (.inr (.inr k6))))
         · exact .inr k6
     have o4 : Own X3 X5 (cx :: (⟨h.ms, h.mn, .v (.slice (some ⟨fb, 0, none⟩) (d.f.length + 1) c)⟩ : Hd).bs b) (cx :: (⟨h.ms, h.mn, .v (.slice (some ⟨fb, 0, none⟩) (d.f.length + 1) c)⟩ : Hd).bs b) := by
       refine Own.set (cs := [b, cx, fb]) ?_ (by simp [Hd.bs, fvb])
       rw [← hX5]
       exact ((f4.mono (by simp)).trans (Fr.set (by simp))).trans (Fr.set (by simp))
     exact ((o2.trans o3).trans o4).sub fun a ha => by simp [ha]
   have hD5 : KD X5 b ⟨h.ms, h.mn, .v (.slice (some ⟨fb, 0, none⟩) (d.f.length + 1) c)⟩ { d with f := d.f ++ [⟨[], 0⟩] } := by
     have h5b : ∀ a, a ≠ fb → a ≠ cx → X5 a = X4 a := fun a h1 h2 => by rw [← hX5, Heap.upd_ne _ _ h1, Heap.upd_ne _ _ h2]
     have f45 : Fr [cx, fb] X4 X5 := Fr.make2 fun a r ha hr => by
       simp only [List.mem_cons, List.not_mem_nil, or_false, not_or] at ha
       rw [h5b a ha.2 ha.1]; exact hr
     have n1x : h.ms ≠ cx := fun e => nx (by simp [Hd.bs, ← e])
     have n2x : h.mn ≠ cx := fun e => nx (by simp [Hd.bs, ← e])
     refine ⟨by rw [h5b b hfb.1.symm nxb.symm]; exact y4, ?_, ?_, .inr ⟨fb, c, zs, by simp, by rw [← hX5, Heap.upd_same], by simpa using k2, k3, by simpa using k4, kz⟩, ?_⟩
     · exact ((hD2.su.fr k5 q5).fr f4 (by simpa using fun e => q1 e.symm)).fr f45 (by simpa using ⟨n1x, hfb.2.1.symm⟩)
     · exact ((hD2.no.fr k5 q6).fr f4 (by simpa using fun e => q2 e.symm)).fr f45 (by simpa using ⟨n2x, hfb.2.2.symm⟩)
     · simp only [Hd.bs, fvb, List.nodup_cons, List.mem_cons, List.not_mem_nil, or_false, not_or, not_false_eq_true, List.nodup_nil, and_true]
       exact ⟨⟨q1, q2, hfb.1.symm⟩, ⟨q4, hfb.2.1.symm⟩, hfb.2.2.symm⟩
   refine drename_spec L b _ { d with f := d.f ++ [⟨[], 0⟩] } _ hs hok (by show d.loose.length < _; omega) _ hD5 _ fun Y hY oY => ?_
   repeat (refine gk dkU ?_)
   exact resK_some (hk Y _ _ hY (Own.ahead (c := cx) hcx f1 (o5.trans oY)))
end Sm
namespace Sm
open Go
attribute [local irreducible] csem rsem dsem seqK blockK normK finK DK RK JK BR G3 resK Spec Tok Fr CV
theorem dput_spec (L : Linked code) (b : Nat) (h : Hd) (d : Dk) (p : List UInt8) (dir : Bool) (n m : Nat) (hw : d.WF n m) (hn : n < 1048576) (hp : p.length ≤ 1048576) (H : Heap) (hD : KD H b h d) (K) (hk : ∀ Y h', KD Y b h' (d.put p dir).1 → Own H Y (h.bs b) (h'.bs b) → K (I (d.put p dir).2) Y) : Spec L.P L.ν 336 [ptr b, S p, B dir] H K := by
 unfold Dk.put at hk
 refine go_spec L code336 rfl ?_
 repeat (refine gk dkU ?_)
 refine bxk dkU ?_
 intro c3 X1 h3 x3 f1 _
 repeat (refine gk dkU ?_)
 refine bxk dkU ?_
 intro c4 X2 h4 x4 f2 _
 have x3a := f2.get (by simp) x3
 repeat (refine gk dkU ?_)
 refine bxk dkU ?_
 intro c5 X3 h5 x5 f3 _
 have x3b := f3.get (by simp) x3a
 have x4b := f3.get (by simp) x4
 have f0 := (f1.trans f2).trans f3
 have hD3 := hD.fr0 f0
 have n3 := hD.new h3
 have n4 := hD.new (f1.of_none h4)
 have n5 := hD.new ((f1.trans f2).of_none h5)
 clear x3 x4 x3a
 repeat (refine gk dkU ?_)
 (apply r_call; (focus rfl))
 refine asked_spec L b h d .full [p] (by simpa using hp) (by simp) X3 hD3 _ fun X4 f4 => ?_
 rw [askD_one]
 have fa := f0.trans f4
 have hD4 := hD3.fr0 f4
 have ob4 := hD4.ob
 have x3c := f4.get (by simp) x3b
 have x4c := f4.get (by simp) x4b
 have x5c := f4.get (by simp) x5
 repeat (refine gk dkU ?_)
 cases c1 : (d.asked p != 0)
 case true =>
   have c1' : d.asked p ≠ 0 := by simpa using c1
   rw [if_pos c1'] at hk
   repeat (refine gk (And.intro dkU c1) ?_)
   exact resK_some (hk X4 h hD4 (Own.of _ fa))
 have c1' : ¬ d.asked p ≠ 0 := by simpa using c1
 rw [if_neg c1'] at hk
 repeat (refine gk (And.intro dkU c1) ?_)
 (apply r_call; (focus rfl))
 refine dparent_spec L b h d p hp hw.now_sn X4 hD4 _ ?_
 repeat (refine gk dkU ?_)
 cases c2 : (parD d.now p != 0)
 case true =>
   have c2' : parD d.now p ≠ 0 := by simpa using c2
   rw [if_pos c2'] at hk
   repeat (refine gk (And.intro dkU c2) ?_)
   exact resK_some (hk X4 h hD4 (Own.of _ fa))
 have c2' : ¬ parD d.now p ≠ 0 := by simpa using c2
 rw [if_neg c2'] at hk
 repeat (refine gk (And.intro dkU c2) ?_)
 apply r_lkpN hD4.no hw.now_sn; (focus rfl)
 repeat (refine gk dkU ?_)
 cases c3' : (getN d.now p).isSome
 case true =>
   rw [c3', if_pos rfl] at hk
   repeat (refine gk dkU ?_)
   exact resK_some (hk X4 h hD4 (Own.of _ fa))
 rw [c3', if_neg (by decide)] at hk
 have hnone : getN d.now p = none := by simpa using c3'
 repeat (refine gk dkU ?_)
 (apply r_call; (focus rfl))
 have hlen := hw.len
 have hfl := hw.fl
 have hop := hw.op
 refine step_spec L b h d (Dk.chg { d with f := if dir then d.f else d.f ++ [⟨[], 0⟩] } (.mk ⟨p, dir, if dir then 0 else d.f.length⟩)) (by omega) hw.fa hw.wr rfl _ X4 hD4 (fun ops fails wrong down X hX oX K1 hk1 => ?_) _ fun Y h' hY oY => ?_
 · exact cv_fn <| dput1_spec L b c3 c4 c5 h (d.ctr ops fails wrong down) p dir hw.now_sn (by show d.loose.length < _; omega) (by show d.f.length < _; omega) hnone X hX (oX.get n3 x3c) (oX.get n4 x4c) (oX.get n5 x5c) n3 n4 n5 K1 fun Y h' r hY oY => hk1 Y h' r hY oY
 · repeat (refine gk dkU ?_)
   exact resK_some (hk Y h' hY ((Own.of _ fa).trans oY))
theorem dcreate_spec (L : Linked code) (b : Nat) (h : Hd) (d : Dk) (p : List UInt8) (n m : Nat) (hw : d.WF n m) (hn : n < 1048576) (hp : p.length ≤ 1048576) (H : Heap) (hD : KD H b h d) (K) (hk : ∀ Y h', KD Y b h' (d.put p false).1 → Own H Y (h.bs b) (h'.bs b) → K (I (d.put p false).2) Y) : Spec L.P L.ν 299 [ptr b, S p] H K := by
 refine go_spec L code299 rfl ?_
 repeat (refine gk dkU ?_)
 (apply r_call; (focus rfl))
 refine dput_spec L b h d p false n m hw hn hp H hD _ fun Y h' hY oY => ?_
 repeat (refine gk dkU ?_)
 exact resK_some (hk Y h' hY oY)
end Sm
namespace Sm
open Go
def szN (f : List Fl) (n : Nm) : Nat := if n.dir then 0 else (f.getD n.id default).b.length
theorem used_eq (d : Dk) : d.used = (d.now.map (szN d.f)).sum := rfl
theorem szN_le {d : Dk} {n m : Nat} (hw : d.WF n m) (x : Nm) : szN d.f x ≤ m := by
 unfold szN
 split
 · exact Nat.zero_le _
 · exact (fl_mem hw _).1
theorem used_le {d : Dk} {n m : Nat} (hw : d.WF n m) : d.used ≤ n * m := by
 rw [used_eq]
 exact Nat.le_trans (sum_le _ m fun x _ => szN_le hw x) (Nat.mul_le_mul_right m hw.now_len)
theorem fpV_of {v : HV} {fb n c : Nat} (h : v = .v (.slice (some ⟨fb, 0, none⟩) n c)) (i : Nat) : fpV v i = .v (.pointer (some ⟨fb, i * 2, none⟩)) := by
 subst h; simp [fpV]
theorem getD_at {f : List Fl} {i : Nat} (h : i < f.length) : f.getD i default = f[i] := by simp [List.getD, h]
attribute [local irreducible] csem rsem dsem seqK blockK normK finK DK RK JK BR G3 resK Spec Tok Fr CV
theorem dused_spec (L : Linked code) (b : Nat) (h : Hd) (d : Dk) (n m : Nat) (hw : d.WF n m) (hnm : n * m ≤ 1152921504606846976) (H : Heap) (hD : KD H b h d) (K) (hk : ∀ X, Fr [] H X → K (I d.used) X) : Spec L.P L.ν 313 [ptr b] H K := by
 have ob := hD.ob
 obtain ⟨mm, hp, hm⟩ := hD.no
 have hml : mm.length ≤ n := by rw [hp.length_eq]; exact hw.now_len
 refine go_spec L code313 rfl ?_
 repeat (refine gk dkU ?_)
 refine r_mop rfl (mp_rng hm fun it X0 hit hI f0 => ?_)
 repeat (refine gk dkU ?_)
 refine c_loop (Spec_SMono L) (fun (q : List Nm × Nat) => [(0, .h (ptr b)), (3, .h (I q.2)), (12, .h (ptr it))]) (fun _ => []) (fun q X => MIt X it h.mn Nm.path ndV mm q.1 ∧ Fr [] H X ∧ q.2 = (q.1.map (szN d.f)).sum) (fun q => mm.length - q.1.length) ([], 0) ?_ ⟨hI, f0, rfl⟩ ?_
 · (refine leM ?_ ?_ ?_ <;> (repeat refine leS trivial ?_) <;> exact leE)
 rintro ⟨done, s⟩ X ⟨hI, hf, hs⟩
 dsimp only at hI hf hs ⊢
 repeat (refine gk dkU ?_)
 refine r_mop rfl (mp_nxt hI hI.ne (fun hpd => ?_) fun a X1 ha had hI1 f1 => ?_)
 · repeat (refine gk dkU ?_)
   have e : s = d.used := by
     rw [hs, used_eq]
     exact ((hpd.trans hp).map _).sum_nat
   rw [e]
   exact resK_some (hk X hf)
 have hlen := hI1.len
 rw [List.length_append, List.length_cons, List.length_nil] at hlen
 have hf1 : Fr [] H X1 := hf.own hit f1
 have hs1 : ((done ++ [a]).map (szN d.f)).sum = s + szN d.f a := by simp [hs]
 have hb1 : s + szN d.f a ≤ 1152921504606846976 := by
   rw [← hs1]
   refine Nat.le_trans (sum_le _ m fun x _ => szN_le hw x) (Nat.le_trans (Nat.mul_le_mul_right m ?_) hnm)
   simp; omega
 repeat (refine gk dkU ?_)
 refine r_mop rfl (mp_ent hI1 ?_)
 repeat (refine gk dkU ?_)
 cases c1 : a.dir
 case true =>
   have hz : szN d.f a = 0 := by simp [szN, c1]
   try simp only [Bool.not_true]
   repeat (refine gk dkU ?_)
   refine k_n (done ++ [a], s) (by simp; omega) ⟨hI1, hf1, by simp only [hs1, hz, Nat.add_zero]⟩ ?_
   (refine leM ?_ ?_ ?_ <;> (repeat refine leS trivial ?_) <;> exact leE)
 have hid := (hw.now_ok a (hp.mem_iff.mp ha)).2.1 c1
 have hz : szN d.f a = d.f[a.id].b.length := by simp [szN, c1, hid]
 rcases hD.fs with ⟨_, h0⟩ | ⟨fb, c, zs, e1, k1, _⟩
 · rw [h0] at hid; exact absurd hid (Nat.not_lt_zero _)
 have ob1 := hf1.get (by simp) ob
 rw [e1] at ob1
 have k2 := hf1.get (by simp) k1
 rw [hz] at hb1 hs1
 try simp only [Bool.not_false]
 repeat (refine gk dkU ?_)
 apply r_idxO; (focus rfl); (focus rfl); (focus omega)
 repeat (refine gk dkU ?_)
 apply r_load; (focus rfl); (focus exact k2); (focus exact load_fl0 hid (by simp) zs)
 repeat (refine gk dkU ?_)
 refine k_n (done ++ [a], s + d.f[a.id].b.length) (by simp; omega) ⟨hI1, hf1, hs1.symm⟩ ?_
 (refine leM ?_ ?_ ?_ <;> (repeat refine leS trivial ?_) <;> exact leE)
end Sm
namespace Sm
open Go
def tot (f : List Fl) : Nat := (f.map fun x => x.b.length).sum
end Sm
