/-
  X,X2,S
-/
import Derived.Test.YtegmmhldpmmkeaaGreatDoorSmLE
import Derived.IntWalk
set_option linter.unusedVariables false
set_option linter.unusedSimpArgs false
set_option linter.unnecessarySimpa false
namespace Sm
open Go
theorem Weak.refl (h : HV) : Weak h h := fun _ _ _ _ h => h
theorem Weak.trans {a b c : HV} (h : Weak a b) (k : Weak b c) : Weak a c := fun ν K w u x => k ν K w u (h ν K w u x)
theorem Weak.nil (sz : Nat) : Weak (.v (.slice none 0 0)) (.sl .full sz []) := by
 intro ν K w u hr
 simp only [rep] at hr ⊢
 exact ⟨none, 0, [], hr, by simp, by simp, rfl, rfl, by simp, by simp [repL], by simp⟩
theorem Weak.drop (tk : Tk) (sz : Nat) (es : List HV) : Weak (.sl tk sz es) (.sl .no sz es) := by
 intro ν K w u hr
 simp only [rep] at hr ⊢
 obtain ⟨A, cap, vals, h1, h2, h3, h4, h5⟩ := hr
 exact ⟨A, cap, vals, h1, h2, h3, trivial, h5⟩
theorem Weak.nil' (sz : Nat) : Weak (.v (.slice none 0 0)) (.sl .no sz []) := (Weak.nil sz).trans (Weak.drop _ _ _)
theorem WeakL.refl : ∀ (l : List HV), WeakL l l
 | [] => trivial
 | a :: l => ⟨Weak.refl a, WeakL.refl l⟩
theorem Weak.ag {as bs : List HV} (h : WeakL as bs) (h1 : bs.all HV.one = true) : Weak (.ag as) (.ag bs) := by
 intro ν K w u hr
 simp only [rep] at hr ⊢
 obtain ⟨us, g1, g2, g3⟩ := hr
 exact ⟨us, g1, h1, repL_weak h g3⟩
theorem Weak.tu {as bs : List HV} (h : WeakL as bs) : Weak (.tu as) (.tu bs) := by
 intro ν K w u hr
 simp only [rep] at hr ⊢
 obtain ⟨us, g1, g3⟩ := hr
 exact ⟨us, g1, repL_weak h g3⟩
theorem Heap.sub_refl (H : Heap) : H.sub H := fun _ r h => ⟨r, h, .inl rfl⟩
theorem Heap.upd_same (H : Heap) (b : Nat) (r : Option Res) : (H.upd b r) b = r := by simp [Heap.upd]
theorem Heap.upd_ne (H : Heap) {a b : Nat} (r : Option Res) (h : a ≠ b) : (H.upd b r) a = H a := by simp [Heap.upd, h]
theorem Heap.sub_new {H : Heap} {b : Nat} {r : Option Res} (h : H b = none) : H.sub (H.upd b r) := by
 intro a x ha
 refine ⟨x, ?_, .inl rfl⟩
 have : a ≠ b := by rintro rfl; rw [h] at ha; cases ha
 simp [Heap.upd, this, ha]
theorem wrap_in {n : Int} (h0 : -9223372036854775808 ≤ n) (h1 : n ≤ 9223372036854775807) : IntKind.i64.wrap n = n := IntWalk.i64_in n ⟨h0, h1⟩
def SLe (S S' : SpecT) : Prop := ∀ g args H K, S g args H K → S' g args H K
theorem step_S {S S' : SpecT} (h : SLe S S') {o : SOp} {e : Env} {H : Heap} {K : EV → Env → Heap → Prop} (hs : o.step S e H K) : o.step S' e H K := by
 cases o
 case call g args =>
   simp only [SOp.step] at hs ⊢
   split at hs
   · exact h _ _ _ _ hs
   · exact hs.elim
 case callv x args =>
   simp only [SOp.step] at hs ⊢
   split at hs
   · exact h _ _ _ _ hs
   · exact h _ _ _ _ hs
   · exact hs.elim
 all_goals exact hs
theorem rsem1_S {S S' : SpecT} (h : SLe S S') (hS : SMono S') {o : SOper} {e : Env} {H : Heap} {K K' : Env → Heap → Prop} (hK : ∀ e H, K e H → K' e H) (hs : rsem1 S o e H K) : rsem1 S' o e H K' := by
 refine rsem1_mono hS hK _ _ _ ?_
 unfold rsem1 at hs ⊢
 split at hs
 · exact step_S h hs
 · split at hs
   · exact ⟨fun hb => step_S h (hs.1 hb), hs.2⟩
   · exact hs
   · exact hs.elim
theorem rsem_S {S S' : SpecT} (h : SLe S S') (hS : SMono S') {K K' : Env → Heap → Prop} (hK : ∀ e H, K e H → K' e H) : ∀ {os : List SOper} {e : Env} {H : Heap}, rsem S os e H K → rsem S' os e H K'
 | [], e, H, hs => hK _ _ hs
 | o :: os, e, H, hs => rsem1_S h hS (fun e H hk => rsem_S h hS hK hk) hs
theorem dsem_S {S S' : SpecT} (h : SLe S S') (hS : SMono S') {L : List DOper} {K K' : Env → Heap → Prop} (hK : ∀ e H, K e H → K' e H) : ∀ {is : List Nat} {e : Env} {H : Heap}, dsem S L is e H K → dsem S' L is e H K'
 | [], e, H, hs => hK _ _ hs
 | i :: is, e, H, hs => rsem1_S h hS (fun e H hk => ⟨hk.1, dsem_S h hS hK hk.2⟩) hs
theorem csem_S {S S' : SpecT} (h : SLe S S') (hS : SMono S') : ∀ (s : SC) {e : Env} {H : Heap} {Q Q' : SEx → Env → Heap → Prop}, (∀ ex e H, Q ex e H → Q' ex e H) → csem S s e H Q → csem S' s e H Q'
 | .skip, e, H, Q, Q', hQ, hs => hQ _ _ _ hs
 | .reg ops, e, H, Q, Q', hQ, hs => rsem_S h hS (fun e H => hQ _ _ _) hs
 | .dreg perm L, e, H, Q, Q', hQ, hs => dsem_S h hS (fun e H => hQ _ _ _) hs
 | .seq a b, e, H, Q, Q', hQ, hs => by
   simp only [csem] at hs ⊢
   refine csem_S h hS a ?_ hs
   intro ex e H hk
   cases ex
   · obtain ⟨e1, H1, h1, h3⟩ := hk
     exact ⟨e1, H1, h1, csem_S h hS b hQ h3⟩
   · exact hQ _ _ _ hk
   · exact hQ _ _ _ hk
 | .cond c a b, e, H, Q, Q', hQ, hs => by
   simp only [csem] at hs ⊢
   split at hs
   · exact ⟨fun ht => csem_S h hS a hQ (hs.1 ht), fun ht => csem_S h hS b hQ (hs.2 ht)⟩
   · exact hs.elim
 | .block id b, e, H, Q, Q', hQ, hs => by
   simp only [csem] at hs ⊢
   refine csem_S h hS b ?_ hs
   intro ex e H hk
   cases ex
   · exact hQ _ _ _ hk
   · simp only at hk ⊢
     split at hk
     · rename_i hi; rw [if_pos hi]; exact hQ _ _ _ hk
     · rename_i hi; rw [if_neg hi]; exact hQ _ _ _ hk
   · exact hQ _ _ _ hk
 | .loop b, e, H, Q, Q', hQ, hs => by
   simp only [csem] at hs ⊢
   obtain ⟨I, h0, hr⟩ := hs
   refine ⟨I, h0, fun n e H hI => csem_S h hS b ?_ (hr n e H hI)⟩
   intro ex e H hk
   cases ex
   · exact hk
   · exact hQ _ _ _ hk
   · exact hQ _ _ _ hk
 | .exit id, e, H, Q, Q', hQ, hs => hQ _ _ _ hs
 | .ret, e, H, Q, Q', hQ, hs => hQ _ _ _ hs
 | .dfr .., e, H, Q, Q', hQ, hs => hs.elim
theorem Spec_SMono {code : Nat → SF} (L : Linked code) : SMono (Spec L.P L.ν) := fun _ _ _ _ _ h h' => Spec_mono h h'
section
variable {S : SpecT} {e : Env} {H : Heap} {Q : SEx → Env → Heap → Prop}
def seqK (S : SpecT) (b : SC) (Q : SEx → Env → Heap → Prop) : SEx → Env → Heap → Prop := fun ex e' H' => match ex with
   | .normal => ∃ e1 H1, VS e' H' e1 H1 ∧ csem S b e1 H1 Q
   | ex => Q ex e' H'
def blockK (id : Nat) (Q : SEx → Env → Heap → Prop) : SEx → Env → Heap → Prop := fun ex e' H' => match ex with
   | .exit i => if i = id then Q .normal e' H' else Q (.exit i) e' H'
   | ex => Q ex e' H'
def normK (Q : SEx → Env → Heap → Prop) : Env → Heap → Prop := Q .normal
def rK (S : SpecT) (os : List SOper) (K : Env → Heap → Prop) (dst : Option Nat) : EV → Env → Heap → Prop := fun x e' H' => rsem S os (e'.put dst x) H' K
def dK (S : SpecT) (L : List DOper) (rc is : List Nat) (K : Env → Heap → Prop) : Env → Heap → Prop := fun e' H' => rcok L rc e' H' ∧ dsem S L is e' H' K
theorem blockK_exit {id i : Nat} : blockK id Q (.exit i) e H = if i = id then Q .normal e H else Q (.exit i) e H := rfl
theorem rK_app {os : List SOper} {K : Env → Heap → Prop} {dst : Option Nat} {x : EV} : rK S os K dst x e H = rsem S os (e.put dst x) H K := rfl
theorem rsem_cons {dst : Option Nat} {op : SOp} {os : List SOper} {K : Env → Heap → Prop} : rsem S (⟨dst, op, none⟩ :: os) e H K = op.step S e H (rK S os K dst) := rfl
theorem rsem_guard {dst : Option Nat} {op : SOp} {t : Nat} {want : Bool} {os : List SOper} {K : Env → Heap → Prop} : rsem S (⟨dst, op, some (t, want)⟩ :: os) e H K = match e.get t with
     | some (.h (.v (.bool b))) => (b = want → op.step S (e.put (some t) (.h (.v (.bool want)))) H (rK S os K dst)) ∧ (b = !want → rsem S os ((e.put (some t) (.h (.v (.bool (!want))))).put dst (.h .undef)) H K)
     | some (.h (.v (.tuple _))) => rsem S os (e.put dst (.h .undef)) H K
     | _ => False := rfl
theorem dsem_cons {L : List DOper} {i : Nat} {is : List Nat} {K : Env → Heap → Prop} : dsem S L (i :: is) e H K = rsem1 S (L[i]!).o e H (dK S L (L[i]!).rc is K) := rfl
theorem csem_dreg {perm : List Nat} {L : List DOper} : csem S (.dreg perm L) e H Q = dsem S L (List.range L.length) e H (normK Q) := rfl
theorem csem_seq {a b : SC} : csem S (.seq a b) e H Q = csem S a e H (seqK S b Q) := rfl
theorem csem_cond {c : Opd} {a b : SC} : csem S (.cond c a b) e H Q = match e.hv c with
   | some (.v (.bool t)) => (t = true → csem S a e H Q) ∧ (t = false → csem S b e H Q)
   | _ => False := rfl
def finK (res : List SRes) (Q : HV → Heap → Prop) : SEx → Env → Heap → Prop := fun ex e H' => (ex = .normal ∨ ex = .ret) ∧
   ∃ e1 H1, VS e H' e1 H1 ∧ match resList e1 H1 res with
   | some hs => ∃ h' H'', Weak (tupled hs) h' ∧ H''.sub H1 ∧ Q h' H''
   | none => False
theorem sem_eq {f : SF} {args : List HV} {Q : HV → Heap → Prop} : f.sem S args H Q = (args.length = f.np ∧ csem S f.body (initE args) H (finK f.res Q)) := rfl
def resK (hs : Option (List HV)) (H' : Heap) (Q : HV → Heap → Prop) : Prop := match hs with
   | some hs => ∃ h' H'', Weak (tupled hs) h' ∧ H''.sub H' ∧ Q h' H''
   | none => False
theorem finK_normal {f : List SRes} {Q : HV → Heap → Prop} (h : resK (resList e H f) H Q) : finK f Q .normal e H := ⟨.inl rfl, e, H, VS.refl e H, h⟩
theorem finK_ret {f : List SRes} {Q : HV → Heap → Prop} (h : resK (resList e H f) H Q) : finK f Q .ret e H := ⟨.inr rfl, e, H, VS.refl e H, h⟩
theorem resK_some {hs : List HV} {Q : HV → Heap → Prop} (h : Q (tupled hs) H) : resK (some hs) H Q := ⟨_, H, Weak.refl _, Heap.sub_refl H, h⟩
theorem resK_weak {hs : List HV} {Q : HV → Heap → Prop} {h' : HV} (hw : Weak (tupled hs) h') (h : Q h' H) : resK (some hs) H Q := ⟨_, H, hw, Heap.sub_refl H, h⟩
theorem resK_sub {hs : List HV} {Q : HV → Heap → Prop} {h' : HV} {H' : Heap} (hw : Weak (tupled hs) h') (hs' : H'.sub H) (h : Q h' H') : resK (some hs) H Q := ⟨_, H', hw, hs', h⟩
theorem csem_loop {ι : Type} (hS : SMono S) {b : SC} (E : ι → Env) (J : ι → Heap → Prop) (μ : ι → Nat) (i0 : ι) (h0 : (E i0).le e) (hJ : J i0 H)
   (round : ∀ i H, J i H → csem S b (E i) H fun ex e' H' => match ex with
     | .normal => ∃ j, μ j < μ i ∧ (E j).le e' ∧ J j H'
     | ex => Q ex e' H') : csem S (.loop b) e H Q := by
 simp only [csem]
 refine ⟨fun n e H => ∃ i, μ i = n ∧ e = E i ∧ J i H, ⟨_, E i0, H, VS.le h0, i0, rfl, rfl, hJ⟩, ?_⟩
 rintro n e H ⟨i, rfl, rfl, hi⟩
 have hr := round i H hi
 have : ∀ (ex : SEx) (e' : Env) (H' : Heap), (match ex with
     | .normal => ∃ j, μ j < μ i ∧ (E j).le e' ∧ J j H'
     | ex => Q ex e' H') → (match ex with
     | .normal => ∃ m e1 H1, m < μ i ∧ VS e' H' e1 H1 ∧ ∃ i, μ i = m ∧ e1 = E i ∧ J i H1
     | ex => Q ex e' H') := by
   intro ex e' H' h
   cases ex with
   | normal =>
     obtain ⟨j, h1, h2, h3⟩ := h
     exact ⟨_, E j, H', h1, VS.le h2, j, rfl, rfl, h3⟩
   | exit k => exact h
   | ret => exact h
 exact csem_S (fun _ _ _ _ h => h) hS b this hr
def leL : List (Nat × EV) → Env → Prop
 | [], _ => True
 | (t, x) :: r, e => (∃ x', e.get t = some x' ∧ (x' = x ∨ EWeak x' x)) ∧ leL r e
def leB : List (Nat × List HV) → Env → Prop
 | [], _ => True
 | (k, cs) :: r, e => (∃ cs', e.box k = some cs' ∧ (cs' = cs ∨ WeakL cs' cs ∧ cs.all HV.one = true)) ∧ leB r e
def lpOk (bx : List (Nat × List HV)) : List (Nat × EV) → Prop
 | [] => True
 | (_, .lp k _) :: r => (lk bx k).isSome = true ∧ lpOk bx r
 | (_, .h _) :: r => lpOk bx r
theorem leL_get : ∀ {l : List (Nat × EV)} {e : Env}, leL l e → ∀ t x, lk l t = some x → ∃ x', e.get t = some x' ∧ (x' = x ∨ EWeak x' x)
 | [], e, _, t, x, h => by simp [lk] at h
 | (k, y) :: r, e, hl, t, x, h => by
   simp only [lk] at h
   split at h
   · rename_i hk; subst hk; simp only [Option.some.injEq] at h; subst h; exact hl.1
   · exact leL_get hl.2 t x h
theorem leB_get : ∀ {l : List (Nat × List HV)} {e : Env}, leB l e → ∀ t x, lk l t = some x → ∃ x', e.box t = some x' ∧ (x' = x ∨ WeakL x' x ∧ x.all HV.one = true)
 | [], e, _, t, x, h => by simp [lk] at h
 | (k, y) :: r, e, hl, t, x, h => by
   simp only [lk] at h
   split at h
   · rename_i hk; subst hk; simp only [Option.some.injEq] at h; subst h; exact hl.1
   · exact leB_get hl.2 t x h
theorem lpOk_get {bx : List (Nat × List HV)} : ∀ {l : List (Nat × EV)}, lpOk bx l → ∀ t k o, lk l t = some (.lp k o) → (lk bx k).isSome = true
 | [], _, t, k, o, h => by simp [lk] at h
 | (s, .lp k' o') :: r, hl, t, k, o, h => by
   simp only [lk] at h
   split at h
   · simp only [Option.some.injEq, EV.lp.injEq] at h; obtain ⟨rfl, _⟩ := h; exact hl.1
   · exact lpOk_get hl.2 t k o h
 | (s, .h y) :: r, hl, t, k, o, h => by
   simp only [lk] at h
   split at h
   · simp at h
   · exact lpOk_get (l := r) hl t k o h
theorem le_of {l : List (Nat × EV)} {bx : List (Nat × List HV)} (h1 : leL l e) (h2 : leB bx e) (h3 : lpOk bx l) : (Env.of l bx).le e :=
 ⟨leL_get h1, leB_get h2, lpOk_get h3⟩
end
abbrev I (n : Int) : HV := .v (.int .i64 n)
abbrev B (b : Bool) : HV := .v (.bool b)
abbrev ptr (b : Nat) : HV := .v (.pointer (some ⟨b, 0, none⟩))
def Tok (H : Heap) (tk : Tk) (n sz : Nat) : Prop :=
 match tk with
 | .full => True
 | .tip b c => H b = some (.tip (n * sz) (c * sz))
 | .no => False
def Fr (bs : List Nat) (H H' : Heap) : Prop := ∀ a r, a ∉ bs → H a = some r → H' a = some r
theorem Fr.get {bs : List Nat} {H H' : Heap} (h : Fr bs H H') {a : Nat} {r : Res} (ha : a ∉ bs) (hr : H a = some r) : H' a = some r := h a r ha hr
theorem Fr.refl (bs : List Nat) (H : Heap) : Fr bs H H := fun _ _ _ h => h
theorem Fr.trans {bs : List Nat} {H1 H2 H3 : Heap} (h : Fr bs H1 H2) (k : Fr bs H2 H3) : Fr bs H1 H3 := fun a r ha hr => k a r ha (h a r ha hr)
theorem Fr.mono {bs cs : List Nat} {H H' : Heap} (h : Fr bs H H') (hs : ∀ a ∈ bs, a ∈ cs) : Fr cs H H' := fun a r ha hr => h a r (fun hb => ha (hs a hb)) hr
theorem Fr.new {bs : List Nat} {H : Heap} {b : Nat} {r : Option Res} (h : H b = none) : Fr bs H (H.upd b r) := by
 intro a x _ ha
 have : a ≠ b := by rintro rfl; rw [h] at ha; cases ha
 simp [Heap.upd, this, ha]
theorem Fr.set {bs : List Nat} {H : Heap} {b : Nat} {r : Option Res} (h : b ∈ bs) : Fr bs H (H.upd b r) := by
 intro a x hab ha
 have : a ≠ b := by rintro rfl; exact hab h
 simp [Heap.upd, this, ha]
theorem Tok.fr {bs : List Nat} {H H' : Heap} {tk : Tk} {n sz : Nat} (h : Tok H tk n sz) (hf : Fr bs H H') (hb : ∀ b c, tk = .tip b c → b ∉ bs) : Tok H' tk n sz := by
 cases tk with
 | no => exact h
 | full => trivial
 | tip b c => exact hf b _ (hb b c rfl) h
theorem Tok.ne {H : Heap} {b c n sz a : Nat} {cs : List HV} (h : Tok H (.tip b c) n sz) (ha : H a = some (.obj cs)) : b ≠ a := by
 rintro rfl
 simp only [Tok] at h
 rw [h] at ha; cases ha
def tb : Tk → List Nat
 | .tip b _ => [b]
 | _ => []
theorem Tok.fr' {bs : List Nat} {H H' : Heap} {tk : Tk} {n sz : Nat} (h : Tok H tk n sz) (hf : Fr bs H H') (hb : ∀ b ∈ tb tk, b ∉ bs) : Tok H' tk n sz :=
 h.fr hf fun b c e => hb b (by subst e; simp [tb])
theorem Tok.ne' {H : Heap} {tk : Tk} {n sz a : Nat} {cs : List HV} (h : Tok H tk n sz) (ha : H a = some (.obj cs)) : ∀ b ∈ tb tk, b ≠ a := by
 cases tk with
 | tip b c => intro x hx; simp only [tb, List.mem_cons, List.not_mem_nil, or_false] at hx; subst hx; exact h.ne ha
 | no => simp [tb]
 | full => simp [tb]
structure Apd (H H' : Heap) (tk tk' : Tk) : Prop where
 fr : Fr (tb tk) H H'
 nw : ∀ a ∈ tb tk', a ∈ tb tk ∨ H a = none
theorem Apd.refl (H : Heap) (tk : Tk) : Apd H H tk tk := ⟨Fr.refl _ _, fun a h => .inl h⟩
def Fresh (H0 : Heap) (tk : Tk) : Prop := ∀ a ∈ tb tk, H0 a = none
theorem Fresh.apd {H0 H H' : Heap} {tk tk' : Tk} (hf : Fr [] H0 H) (h : Fresh H0 tk) (ha : Apd H H' tk tk') : Fresh H0 tk' := by
 intro a hm
 rcases ha.nw a hm with h1 | h1
 · exact h a h1
 · cases hx : H0 a with
   | none => rfl
   | some r => rw [hf a r (by simp) hx] at h1; cases h1
theorem Fr.apd {H0 H H' : Heap} {tk tk' : Tk} {bs : List Nat} (hf : Fr bs H0 H) (h : Fresh H0 tk) (ha : Apd H H' tk tk') : Fr bs H0 H' := by
 intro a r hn hr
 refine ha.fr a r (fun hm => ?_) (hf a r hn hr)
 rw [h a hm] at hr; cases hr
def Apart (t1 t2 : Tk) : Prop := ∀ a ∈ tb t1, a ∉ tb t2
theorem app_one {S : SpecT} {sz bytes : Nat} {x y : Opd} {e : Env} {H : Heap} {K : EV → Env → Heap → Prop} {tk : Tk} {xs ys : List HV} {tk2 : Tk} (hx : e.hv x = some (.sl tk sz xs)) (hy : e.hv y = some (.sl tk2 sz ys)) (ht : Tok H tk xs.length sz)
   (hb : (xs.length + ys.length) * bytes ≤ 140737488355328)
   (hk : ∀ tk' H', Tok H' tk' (xs.length + ys.length) sz → Apd H H' tk tk' → K (.h (.sl tk' sz (xs ++ ys))) e H') : (SOp.app sz bytes x y).step S e H K := by
 refine .inl ?_
 simp only [hx, hy, Option.bind_some, rdv]
 cases tk with
 | no => exact ht.elim
 | full =>
   refine ⟨rfl, fun _ => rfl, fun hys => ?_, fun _ => ⟨hb, fun b c hbn => hk _ _ (by simp [Tok, Heap.upd]) ⟨Fr.new hbn, ?_⟩⟩⟩
   · subst hys
     simpa using hk .full H trivial (Apd.refl _ _)
   · intro a ha; simp only [tb, List.mem_cons, List.not_mem_nil, or_false] at ha; subst ha; exact .inr hbn
 | tip b c =>
   refine ⟨rfl, fun _ => rfl, ht, hb, fun b' c' hb' => hk _ _ (by simp [Tok, Heap.upd]) ⟨?_, ?_⟩⟩
   · have hbm : b ∈ tb (.tip b c) := by simp [tb]
     refine (Fr.set (r := Option.none) hbm).trans ?_
     rcases hb' with rfl | hb'
     · exact Fr.set hbm
     · refine Fr.new ?_
       simp only [Heap.upd]; split
       · rfl
       · exact hb'
   · intro a ha; simp only [tb, List.mem_cons, List.not_mem_nil, or_false] at ha ⊢; subst ha; exact hb'
theorem app_nil {S : SpecT} {sz bytes : Nat} {x y : Opd} {e : Env} {H : Heap} {K : EV → Env → Heap → Prop} {ys : List HV} {tk2 : Tk} (hx : e.hv x = some (.v (.slice none 0 0))) (hy : e.hv y = some (.sl tk2 sz ys))
   (hb : ys.length * bytes ≤ 140737488355328)
   (hk0 : ys = [] → K (.h (.v (.slice none 0 0))) e H)
   (hk : ∀ tk' H', ys ≠ [] → Tok H' tk' ys.length sz → Apd H H' .full tk' → K (.h (.sl tk' sz ys)) e H') : (SOp.app sz bytes x y).step S e H K := by
 refine .inl ?_
 simp only [hx, hy, Option.bind_some, rdv]
 refine ⟨by simp, hk0, fun hys => ⟨hb, fun b c hbn => hk _ _ hys (by simp [Tok, Heap.upd]) ⟨Fr.new hbn, ?_⟩⟩⟩
 intro a ha; simp only [tb, List.mem_cons, List.not_mem_nil, or_false] at ha; subst ha; exact .inr hbn
structure LUp (b : Nat) (H H' : Heap) (tk tk' : Tk) : Prop where
 fr : Fr (b :: tb tk) H H'
 nw : ∀ a ∈ tb tk', a ∈ tb tk ∨ H a = none
end Sm
namespace Sm
open Go
def Froz (ν : Nat → Option Nat) (K : Nat → Nat) (w : World) (b : Nat) (cs : List HV) : Prop := ∃ us, cellsAt w b 0 us ∧ repL ν K w cs us ∧ us.length ≤ K b ∧ cs.all HV.one = true
def FW (b : Nat) (cs : List HV) (x y : HV) : Prop := ∀ ν K w u, Froz ν K w b cs → rep ν K w x u → rep ν K w y u
def FWL (b : Nat) (cs : List HV) : List HV → List HV → Prop
 | [], [] => True
 | x :: xs, y :: ys => FW b cs x y ∧ FWL b cs xs ys
 | _, _ => False
def FE (b : Nat) (cs : List HV) : EV → EV → Prop
 | .h x, .h y => FW b cs x y
 | _, _ => False
def RF (b : Nat) (cs : List HV) : Res → Res → Prop
 | .obj c0, .obj c1 => FWL b cs c0 c1 ∧ c1.all HV.one = true
 | _, _ => False
theorem FWL.rep {ν K w b cs} (hf : Froz ν K w b cs) : ∀ {xs ys : List HV} {us : List Value}, FWL b cs xs ys → repL ν K w xs us → repL ν K w ys us
 | [], [], us, _, h => h
 | x :: xs, y :: ys, us, hw, h => by
   simp only [repL] at h ⊢
   obtain ⟨u, us', h1, h2, h3⟩ := h
   exact ⟨u, us', h1, hw.1 _ _ _ _ hf h2, FWL.rep hf hw.2 h3⟩
 | [], _ :: _, _, hw, _ => hw.elim
 | _ :: _, [], _, hw, _ => hw.elim
theorem FW.refl (b : Nat) (cs : List HV) (x : HV) : FW b cs x x := fun _ _ _ _ _ h => h
theorem FWL.refl (b : Nat) (cs : List HV) : ∀ xs : List HV, FWL b cs xs xs
 | [] => trivial
 | x :: xs => ⟨FW.refl b cs x, FWL.refl b cs xs⟩
theorem FW.of {b cs x y} (h : Weak x y) : FW b cs x y := fun ν K w u _ hr => h ν K w u hr
theorem VS.freeze {e e1 : Env} {H H1 : Heap} {b : Nat} {cs : List HV} (hb : H b = some (.obj cs))
   (hsl : ∀ t x, e1.get t = some x → ∃ y, e.get t = some y ∧ (y = x ∨ FE b cs y x))
   (hbx : ∀ k c1, e1.box k = some c1 → ∃ c0, e.box k = some c0 ∧ (c0 = c1 ∨ FWL b cs c0 c1 ∧ c1.all HV.one = true))
   (hlp : ∀ t k o, e1.get t = some (.lp k o) → (e.box k).isSome = true → (e1.box k).isSome = true)
   (hH : ∀ a r', H1 a = some r' → a ≠ b ∧ ∃ r, H a = some r ∧ (r = r' ∨ RF b cs r r')) : VS e H e1 H1 := by
 rintro D ν w0 K0 H0 N a w ⟨K, μ, hst⟩
 obtain ⟨us, T, r1, r2, r3, r4⟩ := hst.hs.res b _ hb
 have hlt := hst.hs.lt hb
 let K' : Nat → Nat := fun i => if i = b then us.size else K i
 have kb : K' b = us.size := by simp [K']
 have kn : ∀ i, i ≠ b → K' i = K i := fun i hi => by simp [K', hi]
 have hg : Grow w K w K' := ⟨fun i => by
   by_cases hi : i = b
   · subst hi; rw [r2]; exact Nat.zero_le _
   · rw [kn i hi]; exact Nat.le_refl _, fun _ _ _ => rfl⟩
 have hf : Froz ν K' w b cs := ⟨us.toList.take cs.length, cellsAt_take (cellsAt_block r1) _, r3.grow hg, by rw [kb, List.length_take]; simp; omega, r4⟩
 have hnone : ∀ i, H i = none → i ≠ b := fun i hi => by rintro rfl; rw [hi] at hb; cases hb
 have hn1 : ∀ i, H i = none → H1 i = none := fun i hi => by
   cases h1 : H1 i with
   | none => rfl
   | some r => obtain ⟨_, r0, h2, _⟩ := hH i r h1; rw [hi] at h2; cases h2
 refine ⟨K', μ, ⟨⟨fun i r' hi => ?_, fun i hi => ?_, hst.hs.tab.grow hg⟩, hst.sz, hst.df.grow hg, fun t x hx => ?_, fun k c1 hk => ?_, fun i j c c' hi hj hij => ?_, ?_⟩⟩
 · obtain ⟨hib, r, h2, h3⟩ := hH i r' hi
   have h4 := (hst.hs.res i r h2).move hg rfl (kn i hib)
   rcases h3 with rfl | h3
   · exact h4
   · cases r with
     | tip _ _ => exact h3.elim
     | mp _ _ => exact h3.elim
     | it _ _ _ _ => exact h3.elim
     | obj c0 =>
       cases r' with
       | tip _ _ => exact h3.elim
       | mp _ _ => exact h3.elim
       | it _ _ _ _ => exact h3.elim
       | obj c1 =>
         obtain ⟨us', T', g1, g2, g3, g4⟩ := h4
         exact ⟨us', T', g1, g2, (by have g9 := FWL.rep hf h3.1 g3; have e9 := (repL_length g3).symm.trans (repL_length g9); rw [e9] at g9; exact g9), h3.2⟩
 · rw [kn i (by omega)]; exact hst.hs.fresh i hi
 · obtain ⟨y, h1, h2⟩ := hsl t x hx
   obtain ⟨g1, g2⟩ := hst.slot t y h1
   rcases h2 with rfl | h2
   · refine ⟨g1.grow hg, ?_⟩
     cases y with
     | h z => trivial
     | lp k o => exact hlp t k o hx g2
   · cases y with
     | lp _ _ => exact h2.elim
     | h y =>
       cases x with
       | lp _ _ => exact h2.elim
       | h x => exact ⟨h2 _ _ _ _ hf (rep.grow hg y g1), trivial⟩
 · obtain ⟨c0, h1, h2⟩ := hbx k c1 hk
   obtain ⟨b1, b2, us', T', b3, b4, b5, b6⟩ := hst.box k c0 h1
   refine ⟨b1, hn1 _ b2, us', T', b3, (kn _ (hnone _ b2)).trans b4, ?_⟩
   rcases h2 with rfl | h2
   · exact ⟨b5.grow hg, b6⟩
   · exact ⟨FWL.rep hf h2.1 (b5.grow hg), h2.2⟩
 · obtain ⟨d, h1, _⟩ := hbx i c hi
   obtain ⟨d', h2, _⟩ := hbx j c' hj
   exact hst.inj i j _ _ h1 h2 hij
 · have hx := hst.ext
   refine ⟨hx.os, hx.tape, hx.output, hx.size, hx.drawn, hx.grow.trans hg, fun i hi hi0 => ?_⟩
   obtain ⟨s1, s2, s3⟩ := hx.same i hi hi0
   exact ⟨s1, (kn i (hnone i s3)).trans s2, hn1 i s3⟩
theorem unflat {ν K w} : ∀ (es : List HV) {us : List Value}, es.all HV.el = true → repL ν K w (es.flatMap HV.cells) us → ∃ vals, repL ν K w es vals ∧ flat vals = us
 | [], us, _, h => by simp [repL] at h; subst h; exact ⟨[], rfl, rfl⟩
 | e :: es, us, ha, h => by
   simp only [List.all_cons, Bool.and_eq_true] at ha
   rw [List.flatMap_cons] at h
   have hl := repL_length h
   have h1 := repL_take e.cells.length h
   have h2 := repL_drop e.cells.length h
   rw [List.take_left] at h1
   rw [List.drop_left] at h2
   obtain ⟨vals, g1, g2⟩ := unflat es ha.2 h2
   have hl1 := repL_length h1
   have key : ∃ u, rep ν K w e u ∧ u.cells.toList = us.take e.cells.length := by
     cases e with
     | ag cs =>
       refine ⟨.agg (us.take (HV.ag cs).cells.length).toArray, ?_, by simp [Value.cells]⟩
       simp only [rep]
       exact ⟨_, rfl, by simpa [HV.el] using ha.1, h1⟩
     | tu vs => simp [HV.el, HV.one] at ha
     | v x =>
       simp only [HV.cells, repL] at h1
       obtain ⟨u, us', e1, e2, e3⟩ := h1
       subst e3
       refine ⟨u, e2, ?_⟩
       have := rep_cells_size ha.1 e2
       have ho := rep_one (by simpa [HV.el] using ha.1) e2
       cases u <;> simp_all [Value.cells, Value.oneCell', HV.cells]
     | sl tk sz es' =>
       simp only [HV.cells, repL] at h1
       obtain ⟨u, us', e1, e2, e3⟩ := h1
       subst e3
       refine ⟨u, e2, ?_⟩
       have ho := rep_one (by simpa [HV.el] using ha.1) e2
       cases u <;> simp_all [Value.cells, Value.oneCell', HV.cells]
     | rp cs =>
       simp only [HV.cells, repL] at h1
       obtain ⟨u, us', e1, e2, e3⟩ := h1
       subst e3
       refine ⟨u, e2, ?_⟩
       have ho := rep_one (by simpa [HV.el] using ha.1) e2
       cases u <;> simp_all [Value.cells, Value.oneCell', HV.cells]
     | fn g caps =>
       simp only [HV.cells, repL] at h1
       obtain ⟨u, us', e1, e2, e3⟩ := h1
       subst e3
       refine ⟨u, e2, ?_⟩
       have ho := rep_one (by simpa [HV.el] using ha.1) e2
       cases u <;> simp_all [Value.cells, Value.oneCell', HV.cells]
     | fm g r =>
       simp only [HV.cells, repL] at h1
       obtain ⟨u, us', e1, e2, e3⟩ := h1
       subst e3
       refine ⟨u, e2, ?_⟩
       have ho := rep_one (by simpa [HV.el] using ha.1) e2
       cases u <;> simp_all [Value.cells, Value.oneCell', HV.cells]
   obtain ⟨u, k1, k2⟩ := key
   refine ⟨u :: vals, ⟨u, vals, rfl, k1, g1⟩, ?_⟩
   rw [flat, List.flatMap_cons, k2]
   rw [flat] at g2
   rw [g2, List.take_append_drop]
theorem FW.slice {b n c sz : Nat} {cs es : List HV} (hcs : cs.take (n * sz) = es.flatMap HV.cells) (hle : n * sz ≤ cs.length) (hn : es.length = n) (hc : n ≤ c) (hm : c ≤ maxLen) (hel : es.all HV.el = true) (hsz : ∀ e ∈ es, e.ncells = sz) :
   FW b cs (.v (.slice (some ⟨b, 0, none⟩) n c)) (.sl .no sz es) := by
 rintro ν K w u ⟨us, f1, f2, f3, f4⟩ hr
 simp only [rep] at hr
 subst hr hn
 have h1 := repL_take (es.length * sz) f2
 rw [hcs] at h1
 obtain ⟨vals, g1, g2⟩ := unflat es hel h1
 have hl := repL_length f2
 simp only [rep]
 refine ⟨_, c, vals, rfl, hc, hm, trivial, hel, hsz, g1, .inr ⟨b, 0, rfl, by omega, ?_⟩⟩
 rw [g2]
 exact cellsAt_take f1 _
theorem FW.ptr {b : Nat} {cs : List HV} : FW b cs (.v (.pointer (some ⟨b, 0, none⟩))) (.rp cs) := by
 rintro ν K w u ⟨us, f1, f2, f3, f4⟩ hr
 simp only [rep] at hr ⊢
 subst hr
 exact ⟨b, 0, us, rfl, f4, f2, by omega, f1⟩
end Sm
