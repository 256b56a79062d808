/-
  A layer of one's own: texts D26,D27,D28,D29,D30.
-/
import Derived.Test.YtmdfajhlofhmcaaGreatDoorSmDH
import Derived.Test.YtmdfajhlofhmcaaGreatDoorSmLJ
set_option linter.unusedVariables false
set_option linter.unusedSimpArgs false
set_option maxRecDepth 10000
set_option maxHeartbeats 1000000
namespace Sm
open Go
-- BASE rkU
theorem idZ (l : List Nm) (p : List UInt8) : (nmZ (getN l p)).id = idD l p := by
  unfold idD nmZ; cases getN l p <;> rfl
theorem fid_lt {d : Dk} {n m : Nat} (hw : d.WF n m) {p : List UInt8} (h : fileD d.now p = 0) : idD d.now p < d.f.length := by
  unfold fileD at h; unfold idD
  cases hg : getN d.now p with
  | none => rw [hg] at h; cases h
  | some x =>
    rw [hg] at h
    cases hd : x.dir
    · exact (hw.now_ok x (getN_mem hg).1).2.1 hd
    · simp [hd] at h
attribute [local irreducible] csem rsem dsem seqK blockK normK finK DK RK JK BR G3 resK Spec Tok Fr CV GA

theorem rused_spec (L : Linked code) (d : Dk) (n m : Nat) (hw : d.WF n m) (hn : n < 1048000) (hnm : n * m ≤ 1152921504606846976) : PureF L 347 [rkV d] (I d.used) := by
  intro H K hk
  have hlen := hw.now_len
  rw [used_eq] at hk
  have hok := hw.now_ok
  refine go_spec L code347 rfl ?_
  repeat (refine gk rkU ?_)
  (apply r_call; (focus rfl))
  refine rnames_spec L d n m hw hn H _ fun X1 f1 => ?_
  generalize d.now = l at *
  repeat (refine gk rkU ?_)
  refine c_loop (Spec_SMono L) (fun (q : Nat) => [(1, .lp 0 0), (3, .h (I ((l.take q).map (szN d.f)).sum)), (4, .h (.sl .no 3 (l.map rnV))), (5, .h (I q))]) (fun _ => [(0, [I d.room, .sl .no 3 (d.sure.map rnV), .sl .no 2 (d.loose.map rcV), .sl .no 2 (d.f.map rfV), B d.down, I d.ops, I d.fails, B d.done, I d.wrong])])
    (fun q X => q ≤ l.length ∧ X = X1) (fun q => l.length - q) 0 ?_ ⟨by simp, rfl⟩ ?_
  · (refine leM ?_ ?_ ?_ <;> (repeat refine leS trivial ?_) <;> exact leE)
  rintro k X ⟨hk1, rfl⟩
  repeat (refine gk rkU ?_)
  (refine ct rkU ?_ ?_ <;> intro h2)
  · have hk' : k < l.length := by simpa using h2
    have hs1 : ((l.take (k + 1)).map (szN d.f)).sum = ((l.take k).map (szN d.f)).sum + szN d.f l[k] := by
      rw [List.take_succ_eq_append_getElem hk', List.map_append, List.sum_append]; simp
    have hb1 : ((l.take k).map (szN d.f)).sum + szN d.f l[k] ≤ 1152921504606846976 := by
      rw [← hs1]
      refine Nat.le_trans (sum_le _ m fun x _ => szN_le hw x) (Nat.le_trans (Nat.mul_le_mul_right m ?_) hnm)
      rw [List.length_take]; omega
    have hok1 := (hok _ (List.getElem_mem hk')).2.1
    have hll : l.length = l.length := rfl
    obtain ⟨x, hx⟩ : ∃ x, x = l[k] := ⟨_, rfl⟩
    have hgi : (l.map rnV)[k]? = some (rnV x) := by rw [hx]; exact get_enc hk'
    rw [← hx] at hs1 hb1 hok1
    have hgi : (l.map rnV)[k]? = some (rnV x) := by rw [hx]; exact get_enc hk'
    generalize ((l.take k).map (szN d.f)).sum = s at *
    repeat (refine gk rkU ?_)
    rw [← hx]
    cases c1 : x.dir
    case true =>
      have hz : szN d.f x = 0 := by simp [szN, c1]
      try simp only [Bool.not_true]
      repeat (refine gk rkU ?_)
      refine k_n (k + 1) (by omega) ⟨by omega, rfl⟩ ?_
      rw [hs1, hz, Nat.add_zero]
      (refine leM ?_ ?_ ?_ <;> (repeat refine leS trivial ?_) <;> exact leE)
    have hlt := hok1 c1
    have hz : szN d.f x = d.f[x.id].b.length := by simp [szN, c1, hlt]
    rw [hz] at hb1
    rw [hz] at hs1
    try simp only [Bool.not_false]
    have hidx : ∀ {k' : Nat} (h : k' < l.length), l[k'] = l[k'] := fun _ => rfl
    subst hx
    repeat (refine gk rkU ?_)
    refine k_n (k + 1) (by omega) ⟨by omega, rfl⟩ ?_
    rw [hs1]
    (refine leM ?_ ?_ ?_ <;> (repeat refine leS trivial ?_) <;> exact leE)
  have hk' : k = l.length := by have : ¬ k < l.length := by simpa using h2
                                omega
  subst hk'
  rw [List.take_length]
  repeat (refine gk rkU ?_)
  exact resK_some (hk X f1)
theorem rappend_spec (L : Linked code) (d : Dk) (p b : List UInt8) (hp : p.length ≤ 1048576) (n m : Nat) (hw : d.WF n m) (hn : n < 1048000) (hnm : n * m ≤ 1152921504606846976) (hm : m + b.length ≤ 140737488355328) : PureF L 321 [rkV d, S p, .sl .no 1 (b.map U)] (.tu [rkV (d.append p b).1, I (d.append p b).2]) := by
  intro H K hk
  unfold Dk.append Dk.with' at hk
  have hfl := hw.fl
  have hln := hw.len
  refine go_spec L code321 rfl ?_
  repeat (refine gk rkU ?_)
  (apply r_call; (focus rfl))
  refine rasked_spec L d p hp H _ fun X1 f1 => ?_
  cases c1 : d.asked p != 0
  case true =>
    rw [if_pos (by simpa using c1)] at hk
    repeat (refine gk (And.intro rkU c1) ?_)
    exact resK_some (hk X1 f1)
  rw [if_neg (by simpa using c1)] at hk
  repeat (refine gk (And.intro rkU c1) ?_)
  (apply r_call; (focus rfl))
  refine rfileN_spec L d p n m hw hn X1 _ fun X2 f2 => ?_
  have f02 := f1.trans f2
  have hid := idZ d.now p
  cases c2 : fileD d.now p != 0
  case true =>
    rw [if_pos (by simpa using c2)] at hk
    repeat (refine gk (And.intro rkU c2) ?_)
    exact resK_some (hk X2 f02)
  have hlt := fid_lt hw (p := p) (by simpa using c2)
  rw [if_neg (by simpa using c2)] at hk
  rw [← hid] at hk hlt
  generalize nmZ (getN d.now p) = x at *
  rw [getD_at hlt] at hk
  dsimp only at hk
  have hsz := hw.sz _ (List.getElem_mem hlt)
  have hrm := hw.rm
  have hul := used_le hw
  repeat (refine gk (And.intro rkU c2) ?_)
  (apply r_call; (focus rfl))
  refine rused_spec L d n m hw hn hnm X2 _ fun X3 f3 => ?_
  have f03 := f02.trans f3
  repeat (refine gk rkU ?_)
  cases c3 : decide (d.room - (d.used : Int) < (b.length : Int))
  case true =>
    rw [if_pos (by simpa using c3), if_pos (by simpa using c3)] at hk
    repeat (refine gk rkU ?_)
    exact resK_some (hk X3 f03)
  rw [if_neg (by simpa using c3)] at hk
  repeat (refine gk rkU ?_)
  apply r_sadd; (focus rfl); (focus rfl); (focus omega)
  repeat (refine gk rkU ?_)
  (apply r_call; (focus rfl))
  refine rset_spec L d x.id ⟨d.f[x.id].b ++ b, d.f[x.id].safe⟩ hlt (by omega) X3 _ fun X4 f4 => ?_
  repeat (refine gk rkU ?_)
  (apply r_call; (focus rfl))
  refine rstep_spec L d _ n m hw hn X4 _ fun X5 f5 => ?_
  repeat (refine gk rkU ?_)
  exact resK_some (hk X5 ((f03.trans f4).trans f5))
theorem rcut_spec (L : Linked code) (d : Dk) (p : List UInt8) (k : Int) (hp : p.length ≤ 1048576) (n m : Nat) (hw : d.WF n m) (hn : n < 1048000) (hm : m ≤ 140737488355328) : PureF L 322 [rkV d, S p, I k] (.tu [rkV (d.cut p k).1, I (d.cut p k).2]) := by
  intro H K hk
  unfold Dk.cut Dk.with' at hk
  have hfl := hw.fl
  have hln := hw.len
  refine go_spec L code322 rfl ?_
  repeat (refine gk rkU ?_)
  (apply r_call; (focus rfl))
  refine rasked_spec L d p hp H _ fun X1 f1 => ?_
  cases c1 : d.asked p != 0
  case true =>
    rw [if_pos (by simpa using c1)] at hk
    repeat (refine gk (And.intro rkU c1) ?_)
    exact resK_some (hk X1 f1)
  rw [if_neg (by simpa using c1)] at hk
  repeat (refine gk (And.intro rkU c1) ?_)
  (apply r_call; (focus rfl))
  refine rfileN_spec L d p n m hw hn X1 _ fun X2 f2 => ?_
  have f02 := f1.trans f2
  have hid := idZ d.now p
  cases c2 : fileD d.now p != 0
  case true =>
    rw [if_pos (by simpa using c2)] at hk
    repeat (refine gk (And.intro rkU c2) ?_)
    exact resK_some (hk X2 f02)
  have hlt := fid_lt hw (p := p) (by simpa using c2)
  rw [if_neg (by simpa using c2)] at hk
  rw [← hid] at hk hlt
  generalize nmZ (getN d.now p) = x at *
  rw [getD_at hlt] at hk
  dsimp only at hk
  have hsz := hw.sz _ (List.getElem_mem hlt)
  repeat (refine gk (And.intro rkU c2) ?_)
  cases c3 : decide (k < 0)
  case true =>
    have hc : k < 0 ∨ k > (d.f[x.id].b.length : Int) := .inl (by simpa using c3)
    rw [if_pos (by rw [if_pos hc]; decide), if_pos hc] at hk
    repeat (refine gk rkU ?_)
    exact resK_some (hk X2 f02)
  repeat (refine gk rkU ?_)
  cases c4 : decide ((d.f[x.id].b.length : Int) < k)
  case true =>
    have hc : k < 0 ∨ k > (d.f[x.id].b.length : Int) := .inr (by simpa using c4)
    rw [if_pos (by rw [if_pos hc]; decide), if_pos hc] at hk
    repeat (refine gk rkU ?_)
    exact resK_some (hk X2 f02)
  have hkk : 0 ≤ k ∧ k ≤ d.f[x.id].b.length := by simp at c3 c4; omega
  have hc : ¬ (k < 0 ∨ k > (d.f[x.id].b.length : Int)) := by omega
  rw [if_neg (by rw [if_neg hc]; decide)] at hk
  obtain ⟨j, rfl⟩ : ∃ j : Nat, k = j := ⟨k.toNat, by omega⟩
  rw [Int.toNat_natCast] at hk
  have hmn : min (j : Int) (d.f[x.id].safe : Int) = ((min j d.f[x.id].safe : Nat) : Int) := by omega
  repeat (refine gk rkU ?_)
  rw [hmn]
  repeat (refine gk rkU ?_)
  (apply r_call; (focus rfl))
  refine rset_spec L d x.id ⟨d.f[x.id].b.take j, min j d.f[x.id].safe⟩ hlt (by omega) X2 _ fun X4 f4 => ?_
  repeat (refine gk rkU ?_)
  (apply r_call; (focus rfl))
  refine rstep_spec L d _ n m hw hn X4 _ fun X5 f5 => ?_
  repeat (refine gk rkU ?_)
  exact resK_some (hk X5 ((f02.trans f4).trans f5))
theorem rsync_spec (L : Linked code) (d : Dk) (p : List UInt8) (hp : p.length ≤ 1048576) (n m : Nat) (hw : d.WF n m) (hn : n < 1048000) (hm : m ≤ 140737488355328) : PureF L 323 [rkV d, S p] (.tu [rkV (d.sync p).1, I (d.sync p).2]) := by
  intro H K hk
  unfold Dk.sync Dk.with' at hk
  have hfl := hw.fl
  have hln := hw.len
  refine go_spec L code323 rfl ?_
  repeat (refine gk rkU ?_)
  (apply r_call; (focus rfl))
  refine rasked_spec L d p hp H _ fun X1 f1 => ?_
  cases c1 : d.asked p != 0
  case true =>
    rw [if_pos (by simpa using c1)] at hk
    repeat (refine gk (And.intro rkU c1) ?_)
    exact resK_some (hk X1 f1)
  rw [if_neg (by simpa using c1)] at hk
  repeat (refine gk (And.intro rkU c1) ?_)
  (apply r_call; (focus rfl))
  refine rfileN_spec L d p n m hw hn X1 _ fun X2 f2 => ?_
  have f02 := f1.trans f2
  have hid := idZ d.now p
  cases c2 : fileD d.now p != 0
  case true =>
    rw [if_pos (by simpa using c2)] at hk
    repeat (refine gk (And.intro rkU c2) ?_)
    exact resK_some (hk X2 f02)
  have hlt := fid_lt hw (p := p) (by simpa using c2)
  rw [if_neg (by simpa using c2)] at hk
  rw [← hid] at hk hlt
  generalize nmZ (getN d.now p) = x at *
  rw [getD_at hlt] at hk
  dsimp only at hk
  have hsz := hw.sz _ (List.getElem_mem hlt)
  rw [if_neg (by decide)] at hk
  repeat (refine gk (And.intro rkU c2) ?_)
  (apply r_call; (focus rfl))
  refine rset_spec L d x.id ⟨d.f[x.id].b, d.f[x.id].b.length⟩ hlt (by omega) X2 _ fun X4 f4 => ?_
  repeat (refine gk rkU ?_)
  (apply r_call; (focus rfl))
  refine rstep_spec L d _ n m hw hn X4 _ fun X5 f5 => ?_
  repeat (refine gk rkU ?_)
  exact resK_some (hk X5 ((f02.trans f4).trans f5))
end Sm

set_option linter.unusedVariables false
set_option linter.unusedSimpArgs false
set_option maxRecDepth 10000
set_option maxHeartbeats 1000000
namespace Sm
open Go
-- BASE rkU
attribute [local irreducible] csem rsem dsem seqK blockK normK finK DK RK JK BR G3 resK Spec Tok Fr CV GA

theorem rdremove_spec (L : Linked code) (d : Dk) (p : List UInt8) (hp : p.length ≤ 1048576) (n m : Nat) (hw : d.WF n m) (hn : n < 1048000) : PureF L 325 [rkV d, S p] (.tu [rkV (d.remove p).1, I (d.remove p).2]) := by
  intro H K hk
  unfold Dk.remove at hk
  have hln := hw.len
  have hnl := hw.now_len
  have hok := hw.now_ok
  refine go_spec L code325 rfl ?_
  repeat (refine gk rkU ?_)
  (apply r_call; (focus rfl))
  refine rasked_spec L d p hp H _ fun X1 f1 => ?_
  cases c1 : d.asked p != 0
  case true =>
    rw [if_pos (by simpa using c1)] at hk
    repeat (refine gk (And.intro rkU c1) ?_)
    exact resK_some (hk X1 f1)
  rw [if_neg (by simpa using c1)] at hk
  repeat (refine gk (And.intro rkU c1) ?_)
  (apply r_call; (focus rfl))
  refine rgetN_spec L d p n m hw hn X1 _ fun X2 f2 => ?_
  have f02 := f1.trans f2
  cases c2 : getN d.now p with
  | none =>
    rw [c2] at hk
    simp only [nmZ, Option.getD, Option.isSome] at hk ⊢
    repeat (refine gk rkU ?_)
    exact resK_some (hk X2 f02)
  | some x =>
    rw [c2] at hk
    simp only [nmZ, Option.getD, Option.isSome] at hk ⊢
    repeat (refine gk rkU ?_)
    (apply r_call; (focus rfl))
    refine rnames_spec L d n m hw hn X2 _ fun X3 f3 => ?_
    have f03 := f02.trans f3
    generalize d.now = l at *
    repeat (refine gk rkU ?_)
    refine c_loop (Spec_SMono L) (fun (q : Nat) => [(1, .h (S p)), (2, .lp 0 0), (4, .lp 1 0), (5, .h (I 0)), (7, .lp 2 0), (9, .h (.sl .no 3 (l.map rnV))), (10, .h (I q))]) (fun _ => [(0, [I d.room, .sl .no 3 (d.sure.map rnV), .sl .no 2 (d.loose.map rcV), .sl .no 2 (d.f.map rfV), B d.down, I d.ops, I d.fails, B d.done, I d.wrong]), (1, [I 0, .v (.slice none 0 0), .v (.slice none 0 0), .v (.slice none 0 0), B false, I 0, I 0, B false, I 0]), (2, [S x.path, B x.dir, I x.id])])
      (fun q X => q ≤ l.length ∧ X = X3 ∧ ∀ y ∈ l.take q, (parL y.path == p) = false) (fun q => l.length - q) 0 ?_ ⟨by simp, rfl, by simp⟩ ?_
    · (refine leM ?_ ?_ ?_ <;> (repeat refine leS trivial ?_) <;> exact leE)
    rintro k X ⟨hk1, rfl, hall⟩
    repeat (refine gk rkU ?_)
    (refine ct rkU ?_ ?_ <;> intro h2)
    · have hk' : k < l.length := by simpa using h2
      have hs := List.take_succ_eq_append_getElem hk'
      have hpl := chkP_len (hok _ (List.getElem_mem hk')).2.2
      repeat (refine gk rkU ?_)
      (apply r_call; (focus rfl))
      refine rparent_spec L l[k].path (by omega) _ _ ?_
      repeat (refine gk rkU ?_)
      cases c3 : parL l[k].path == p
      case true =>
        have hany : l.any (fun n => parL n.path == p) = true := List.any_eq_true.mpr ⟨_, List.getElem_mem hk', c3⟩
        rw [hany, if_pos rfl] at hk
        repeat (refine gk rkU ?_)
        exact resK_some (hk X f03)
      repeat (refine gk rkU ?_)
      refine k_n (k + 1) (by omega) ⟨by omega, rfl, fun y hy => ?_⟩ ?_
      · rw [hs] at hy
        rcases List.mem_append.mp hy with hy | hy
        · exact hall y hy
        · rw [List.mem_singleton] at hy; subst hy; exact c3
      · (refine leM ?_ ?_ ?_ <;> (repeat refine leS trivial ?_) <;> exact leE)
    have hk' : k = l.length := by have : ¬ k < l.length := by simpa using h2
                                  omega
    subst hk'
    rw [List.take_length] at hall
    have hany : l.any (fun n => parL n.path == p) = false := by
      rw [List.any_eq_false]; intro y hy; rw [hall y hy]; decide
    rw [hany, if_neg (by decide)] at hk
    repeat (refine gk rkU ?_)
    (apply r_call; (focus rfl))
    refine Spec_weak (hs' := [rkV d, .sl .no 3 ((Chg.rm x).gone.map rnV), .sl .no 3 ((Chg.rm x).came.map rnV)]) (show WeakL [rkV d, .sl .full 3 [rnV x], .v (.slice none 0 0)] _ from ⟨Weak.refl _, Weak.drop _ _ _, Weak.nil' 3, trivial⟩) ?_
    refine rchange_spec L d (.rm x) (by omega) X _ fun X4 f4 => ?_
    repeat (refine gk rkU ?_)
    (apply r_call; (focus rfl))
    refine rstep_spec L d _ n m hw hn X4 _ fun X5 f5 => ?_
    repeat (refine gk rkU ?_)
    exact resK_some (hk X5 ((f03.trans f4).trans f5))
theorem rsyncdirs_spec (L : Linked code) (d : Dk) (n m : Nat) (hw : d.WF n m) (hn : n < 1048000) : PureF L 327 [rkV d] (.tu [rkV d.syncDirs.1, I d.syncDirs.2]) := by
  intro H K hk
  unfold Dk.syncDirs at hk
  refine go_spec L code327 rfl ?_
  repeat (refine gk rkU ?_)
  (refine ct rkU ?_ ?_ <;> intro c1)
  · rw [if_pos c1] at hk
    repeat (refine gk rkU ?_)
    exact resK_some (hk H (Fr.refl _ _))
  rw [if_neg (by simp [c1])] at hk
  repeat (refine gk rkU ?_)
  (apply r_call; (focus rfl))
  refine rnames_spec L d n m hw hn H _ fun X1 f1 => ?_
  repeat (refine gk rkU ?_)
  (apply r_call; (focus rfl))
  refine Spec_weak (hs' := [rkV d, rkV { d with sure := d.now, loose := [] }]) (show WeakL [rkV d, .ag [I d.room, .sl .no 3 (d.now.map rnV), .v (.slice none 0 0), .sl .no 2 (d.f.map rfV), B d.down, I d.ops, I d.fails, B d.done, I d.wrong]] _ from ⟨Weak.refl _, rkW (d := { d with sure := d.now, loose := [] }) (Weak.refl _) (Weak.nil' 2) (Weak.refl _), trivial⟩) ?_
  refine rstep_spec L d _ n m hw hn X1 _ fun X5 f5 => ?_
  repeat (refine gk rkU ?_)
  exact resK_some (hk X5 (f1.trans f5))
theorem rfail_spec (L : Linked code) (d : Dk) (k : Int) (t : Bool) : PureF L 328 [rkV d, I k, B t] (.tu [rkV (d.fail k t).1, I (d.fail k t).2]) := by
  intro H K hk
  unfold Dk.fail at hk
  refine go_spec L code328 rfl ?_
  repeat (refine gk rkU ?_)
  (refine ct rkU ?_ ?_ <;> intro c1)
  · rw [if_pos c1] at hk
    repeat (refine gk rkU ?_)
    exact resK_some (hk H (Fr.refl _ _))
  rw [if_neg (by simp [c1])] at hk
  repeat (refine gk rkU ?_)
  cases c2 : decide (k < 0)
  case true =>
    rw [if_pos (by simpa using c2)] at hk
    repeat (refine gk rkU ?_)
    exact resK_some (hk H (Fr.refl _ _))
  rw [if_neg (by simpa using c2)] at hk
  repeat (refine gk rkU ?_)
  exact resK_some (hk H (Fr.refl _ _))
theorem rfault_spec (L : Linked code) (d : Dk) (k : Int) : PureF L 319 [rkV d, I k] (.tu [rkV (d.fault k).1, I (d.fault k).2]) := by
  intro H K hk
  unfold Dk.fault at hk
  refine go_spec L code319 rfl ?_
  repeat (refine gk rkU ?_)
  (refine ct rkU ?_ ?_ <;> intro c1)
  · rw [if_pos c1] at hk
    repeat (refine gk rkU ?_)
    exact resK_some (hk H (Fr.refl _ _))
  rw [if_neg (by simp [c1])] at hk
  repeat (refine gk rkU ?_)
  cases c2 : decide (k < 0)
  case true =>
    rw [if_pos (by simpa using c2)] at hk
    repeat (refine gk rkU ?_)
    exact resK_some (hk H (Fr.refl _ _))
  rw [if_neg (by simpa using c2)] at hk
  repeat (refine gk rkU ?_)
  exact resK_some (hk H (Fr.refl _ _))
theorem rnew_spec (L : Linked code) (k : Int) : PureF L 295 [I k] (rkV (newD k)) := by
  intro H K hk
  refine go_spec L code295 rfl ?_
  repeat (refine gk rkU ?_)
  exact resK_weak (rkW (d := newD k) (Weak.nil' 3) (Weak.nil' 2) (Weak.nil' 2)) (hk H (Fr.refl _ _))
end Sm

set_option linter.unusedVariables false
set_option linter.unusedSimpArgs false
set_option maxRecDepth 10000
set_option maxHeartbeats 1000000
namespace Sm
open Go
-- BASE rkU
attribute [local irreducible] csem rsem dsem seqK blockK normK finK DK RK JK BR G3 resK Spec Tok Fr CV GA

theorem rrename_spec (L : Linked code) (d : Dk) (a b : List UInt8) (ha : a.length ≤ 1048576) (hb : b.length ≤ 1048576) (n m : Nat) (hw : d.WF n m) (hn : n < 1048000) : PureF L 326 [rkV d, S a, S b] (.tu [rkV (d.rename a b).1, I (d.rename a b).2]) := by
  intro H K hk
  unfold Dk.rename at hk
  have hln := hw.len
  refine go_spec L code326 rfl ?_
  repeat (refine gk rkU ?_)
  (apply r_call; (focus rfl))
  refine rasked_spec L d a ha H _ fun X1 f1 => ?_
  cases c1 : d.asked a == 0
  case false =>
    have c1n : (d.asked a != 0) = true := by rw [bne, c1]; rfl
    rw [if_pos (by simpa using c1n)] at hk
    repeat (refine gk (And.intro rkU (And.intro c1 c1n)) ?_)
    exact resK_some (hk X1 f1)
  have e1 : d.asked a = 0 := by simpa using c1
  rw [if_neg (by simp [e1])] at hk
  rw [e1]
  repeat (refine gk rkU ?_)
  (apply r_call; (focus rfl))
  refine rcheck_spec L b hb X1 _ fun X2 f2 => ?_
  have f02 := f1.trans f2
  repeat (refine gk rkU ?_)
  cases c2 : chkP b != 0
  case true =>
    rw [if_pos (by simpa using c2)] at hk
    repeat (refine gk rkU ?_)
    exact resK_some (hk X2 f02)
  rw [if_neg (by simpa using c2)] at hk
  repeat (refine gk rkU ?_)
  (apply r_call; (focus rfl))
  refine rfileN_spec L d a n m hw hn X2 _ fun X3 f3 => ?_
  have f03 := f02.trans f3
  cases c3 : fileD d.now a == 0
  case false =>
    have c3n : (fileD d.now a != 0) = true := by rw [bne, c3]; rfl
    rw [if_pos (by simpa using c3n)] at hk
    repeat (refine gk (And.intro rkU (And.intro c3 c3n)) ?_)
    (apply r_call; (focus rfl))
    refine rgetN_spec L d b n m hw hn X3 _ fun X4 f4 => ?_
    repeat (refine gk (And.intro rkU (And.intro c3 c3n)) ?_)
    exact resK_some (hk X4 (f03.trans f4))
  have e3 : fileD d.now a = 0 := by simpa using c3
  rw [if_neg (by simp [e3])] at hk
  rw [e3]
  have hga : (getN d.now a).isSome = true := by
    unfold fileD at e3
    cases hg : getN d.now a with
    | none => rw [hg] at e3; cases e3
    | some x => rfl
  obtain ⟨x, hx⟩ := Option.isSome_iff_exists.mp hga
  have hmx : nmZ (getN d.now a) = x := by rw [hx]; rfl
  rw [hmx]
  rw [hx] at hk
  repeat (refine gk rkU ?_)
  (apply r_call; (focus rfl))
  refine rparN_spec L d b hb n m hw hn X3 _ fun X4 f4 => ?_
  have f04 := f03.trans f4
  cases c4 : parD d.now b == 0
  case false =>
    have c4n : (parD d.now b != 0) = true := by rw [bne, c4]; rfl
    rw [if_pos (by simpa using c4n)] at hk
    repeat (refine gk rkU ?_)
    (apply r_call; (focus rfl))
    refine rgetN_spec L d b n m hw hn X4 _ fun X5 f5 => ?_
    repeat (refine gk (And.intro rkU (And.intro c4 c4n)) ?_)
    exact resK_some (hk X5 (f04.trans f5))
  have e4 : parD d.now b = 0 := by simpa using c4
  rw [if_neg (by simp [e4])] at hk
  rw [e4]
  repeat (refine gk rkU ?_)
  (apply r_call; (focus rfl))
  refine rgetN_spec L d b n m hw hn X4 _ fun X5 f5 => ?_
  have f05 := f04.trans f5
  cases hy : getN d.now b with
  | none =>
    rw [hy] at hk
    rw [if_neg (by simp)] at hk
    simp only [nmZ, Option.getD, Option.isSome]
    repeat (refine gk rkU ?_)
    (apply r_call; (focus rfl))
    refine Spec_weak (hs' := [rkV d, .sl .no 3 ((Chg.mv x none b).gone.map rnV), .sl .no 3 ((Chg.mv x none b).came.map rnV)]) (show WeakL [rkV d, .sl .full 3 [rnV x], .sl .full 3 [rnV ⟨b, false, x.id⟩]] _ from ⟨Weak.refl _, Weak.drop _ _ _, Weak.drop _ _ _, trivial⟩) ?_
    refine rchange_spec L d (.mv x none b) (by omega) X5 _ fun X6 f6 => ?_
    repeat (refine gk rkU ?_)
    (apply r_call; (focus rfl))
    refine rstep_spec L d _ n m hw hn X6 _ fun X7 f7 => ?_
    repeat (refine gk rkU ?_)
    exact resK_some (hk X7 ((f05.trans f6).trans f7))
  | some y =>
    rw [hy] at hk
    simp only [nmZ, Option.getD, Option.isSome]
    have e5 : (some y).any (·.dir) = y.dir := rfl
    rw [e5] at hk
    repeat (refine gk rkU ?_)
    (refine ct rkU ?_ ?_ <;> intro c5)
    · rw [if_pos c5] at hk
      repeat (refine gk rkU ?_)
      exact resK_some (hk X5 f05)
    rw [if_neg (by simp [c5])] at hk
    repeat (refine gk rkU ?_)
    refine r_pushA (ys := [rnV y]) (GA.full H X5 3 [rnV x]) f05 rfl rfl (by simp) fun v1 X6 g6 f6 => ?_
    repeat (refine gk rkU ?_)
    (apply r_call; (focus rfl))
    refine Spec_weak (hs' := [rkV d, .sl .no 3 ((Chg.mv x (some y) b).gone.map rnV), .sl .no 3 ((Chg.mv x (some y) b).came.map rnV)]) (show WeakL [rkV d, v1, .sl .full 3 [rnV ⟨b, false, x.id⟩]] _ from ⟨Weak.refl _, g6.weak, Weak.drop _ _ _, trivial⟩) ?_
    refine rchange_spec L d (.mv x (some y) b) (by omega) X6 _ fun X7 f7 => ?_
    repeat (refine gk rkU ?_)
    (apply r_call; (focus rfl))
    refine rstep_spec L d _ n m hw hn X7 _ fun X8 f8 => ?_
    repeat (refine gk rkU ?_)
    exact resK_some (hk X8 ((f6.trans f7).trans f8))
theorem rread_spec (L : Linked code) (d : Dk) (p : List UInt8) (n m : Nat) (hw : d.WF n m) (hn : n < 1048000) : PureF L 345 [rkV d, S p] (.tu [S (d.read p).1, I (d.read p).2]) := by
  intro H K hk
  unfold Dk.read at hk
  refine go_spec L code345 rfl ?_
  repeat (refine gk rkU ?_)
  (refine ct rkU ?_ ?_ <;> intro c1)
  · rw [if_pos c1] at hk
    repeat (refine gk rkU ?_)
    exact resK_some (hk H (Fr.refl _ _))
  rw [if_neg (by simp [c1])] at hk
  repeat (refine gk rkU ?_)
  (apply r_call; (focus rfl))
  refine rfileN_spec L d p n m hw hn H _ fun X2 f2 => ?_
  have hid := idZ d.now p
  cases c2 : fileD d.now p != 0
  case true =>
    rw [if_pos (by simpa using c2)] at hk
    repeat (refine gk (And.intro rkU c2) ?_)
    exact resK_some (hk X2 f2)
  have hlt := fid_lt hw (p := p) (by simpa using c2)
  rw [if_neg (by simpa using c2)] at hk
  rw [← hid] at hk hlt
  generalize nmZ (getN d.now p) = x at *
  rw [getD_at hlt] at hk
  repeat (refine gk (And.intro rkU c2) ?_)
  exact resK_some (hk X2 f2)
theorem rsafe_spec (L : Linked code) (d : Dk) (p : List UInt8) (n m : Nat) (hw : d.WF n m) (hn : n < 1048000) : PureF L 348 [rkV d, S p] (I (d.safe p)) := by
  intro H K hk
  unfold Dk.safe at hk
  refine go_spec L code348 rfl ?_
  repeat (refine gk rkU ?_)
  (apply r_call; (focus rfl))
  refine rfileN_spec L d p n m hw hn H _ fun X2 f2 => ?_
  have hid := idZ d.now p
  cases c2 : fileD d.now p != 0
  case true =>
    rw [if_pos (by simpa using c2)] at hk
    repeat (refine gk (And.intro rkU c2) ?_)
    exact resK_some (hk X2 f2)
  have hlt := fid_lt hw (p := p) (by simpa using c2)
  rw [if_neg (by simpa using c2)] at hk
  rw [← hid] at hk hlt
  generalize nmZ (getN d.now p) = x at *
  rw [getD_at hlt] at hk
  repeat (refine gk (And.intro rkU c2) ?_)
  exact resK_some (hk X2 f2)
end Sm

set_option linter.unusedVariables false
set_option linter.unusedSimpArgs false
set_option maxRecDepth 10000
set_option maxHeartbeats 1000000
namespace Sm
open Go
-- BASE rkU
attribute [local irreducible] csem rsem dsem seqK blockK normK finK DK RK JK BR G3 resK Spec Tok Fr CV GA

theorem rlist_spec (L : Linked code) (d : Dk) (n m : Nat) (hw : d.WF n m) (hn : n < 1048000) (hm : m ≤ 140737488355328) : PureF L 346 [rkV d] (.sl .no 3 (d.list.map encE)) := by
  intro H K hk
  rw [list_eq] at hk
  have hnl := hw.now_len
  have hok := hw.now_ok
  refine go_spec L code346 rfl ?_
  repeat (refine gk rkU ?_)
  (refine ct rkU ?_ ?_ <;> intro c1)
  · rw [if_pos c1] at hk
    repeat (refine gk rkU ?_)
    exact resK_weak (Weak.nil' 3) (hk H (Fr.refl _ _))
  rw [if_neg (by simp [c1])] at hk
  repeat (refine gk rkU ?_)
  (apply r_call; (focus rfl))
  refine rnames_spec L d n m hw hn H _ fun X1 f1 => ?_
  generalize d.now = l at *
  repeat (refine gk rkU ?_)
  refine c_loop (Spec_SMono L) (fun (q : Nat × HV) => [(1, .lp 0 0), (3, .h q.2), (4, .h (.sl .no 3 (l.map rnV))), (5, .h (I q.1))]) (fun _ => [(0, [I d.room, .sl .no 3 (d.sure.map rnV), .sl .no 2 (d.loose.map rcV), .sl .no 2 (d.f.map rfV), B d.down, I d.ops, I d.fails, B d.done, I d.wrong])])
    (fun q X => q.1 ≤ l.length ∧ Fr [] H X ∧ ∃ us, GA H X 3 q.2 us ∧ us.length = q.1 ∧ WeakL us (((l.take q.1).map (entN d.f)).map encE)) (fun q => l.length - q.1) (0, _) ?_ ⟨by simp, f1, [], GA.nil _ _ _, rfl, trivial⟩ ?_
  · (refine leM ?_ ?_ ?_ <;> (repeat refine leS trivial ?_) <;> exact leE)
  rintro ⟨k, v⟩ X ⟨hk1, hf, us, hg, hul, hwu⟩
  dsimp only at hk1 hf hg hul hwu ⊢
  repeat (refine gk rkU ?_)
  (refine ct rkU ?_ ?_ <;> intro h2)
  · have hk' : k < l.length := by simpa using h2
    have hs := List.take_succ_eq_append_getElem hk'
    have hok1 := (hok _ (List.getElem_mem hk')).2.1
    have hes : ((l.take (k + 1)).map (entN d.f)).map encE = ((l.take k).map (entN d.f)).map encE ++ [encE (entN d.f l[k])] := by rw [hs, List.map_append, List.map_append]; rfl
    repeat (refine gk rkU ?_)
    cases c2 : l[k].dir
    case true =>
      have he : entN d.f l[k] = ⟨l[k].path, true, []⟩ := by simp [entN, c2]
      try simp only [Bool.not_true]
      repeat (refine gk rkU ?_)
      refine r_pushA (ys := [.ag [S l[k].path, B true, .v (.slice none 0 0)]]) hg hf rfl rfl (by simp only [List.length_cons, List.length_nil]; omega) fun v1 X2 g2 f2 => ?_
      repeat (refine gk rkU ?_)
      refine k_n (k + 1, v1) (by simp only; omega) ⟨by simp only; omega, f2, _, g2, by simp [hul], ?_⟩ ?_
      · simp only [hes]
        refine hwu.app ?_
        rw [he]
        exact ⟨Weak.ag ⟨Weak.refl _, Weak.refl _, Weak.nil' 1, trivial⟩ rfl, trivial⟩
      · (refine leM ?_ ?_ ?_ <;> (repeat refine leS trivial ?_) <;> exact leE)
    have hlt := hok1 c2
    have he : entN d.f l[k] = ⟨l[k].path, false, d.f[l[k].id].b⟩ := by simp [entN, c2, hlt]
    have hsz := hw.sz _ (List.getElem_mem hlt)
    try simp only [Bool.not_false]
    repeat (refine gk rkU ?_)
    apply r_s2b; (focus rfl); (focus omega)
    repeat (refine gk rkU ?_)
    refine r_pushA (ys := [.ag [S l[k].path, B false, .sl .no 1 (d.f[l[k].id].b.map U)]]) hg hf rfl rfl (by simp only [List.length_cons, List.length_nil]; omega) fun v1 X2 g2 f2 => ?_
    repeat (refine gk rkU ?_)
    refine k_n (k + 1, v1) (by simp only; omega) ⟨by simp only; omega, f2, _, g2, by simp [hul], ?_⟩ ?_
    · simp only [hes]
      refine hwu.app ?_
      rw [he]
      exact ⟨Weak.refl _, trivial⟩
    · (refine leM ?_ ?_ ?_ <;> (repeat refine leS trivial ?_) <;> exact leE)
  have hk' : k = l.length := by have : ¬ k < l.length := by simpa using h2
                                omega
  subst hk'
  rw [List.take_length] at hwu
  repeat (refine gk rkU ?_)
  refine resK_weak (hg.weak.trans (Weak.els hwu ?_ ?_)) (hk X hf)
  · rw [List.all_eq_true]; intro x hx; obtain ⟨y, _, rfl⟩ := List.mem_map.mp hx; rfl
  · intro x hx; obtain ⟨y, _, rfl⟩ := List.mem_map.mp hx; rfl
end Sm

set_option linter.unusedVariables false
set_option linter.unusedSimpArgs false
set_option maxRecDepth 10000
set_option maxHeartbeats 1000000
namespace Sm
open Go
-- BASE rkU
theorem load_row {f : List Fl} {i : Nat} (h : i < f.length) (zs : List HV) : loadv true 2 (0 + (i : Int).toNat * 2) ((f.map rfV).flatMap HV.cells ++ zs) = some (.ag [S f[i].b, I f[i].safe]) := by
  have hl : f = f.take i ++ f[i] :: f.drop (i + 1) := by rw [← List.drop_eq_getElem_cons h, List.take_append_drop]
  have h1 : ((f.map rfV).flatMap HV.cells ++ zs) = ((f.take i).map rfV).flatMap HV.cells ++ (S f[i].b :: I f[i].safe :: (((f.drop (i + 1)).map rfV).flatMap HV.cells ++ zs)) := by
    conv => lhs; rw [hl]
    simp only [List.map_append, List.map_cons, List.flatMap_append, List.flatMap_cons, List.append_assoc]
    rfl
  have h2 : (((f.take i).map rfV).flatMap HV.cells).length = i * 2 := rlen_f _ i (by rw [List.length_take]; omega)
  have h3 : 0 + (i : Int).toNat * 2 = (((f.take i).map rfV).flatMap HV.cells).length := by rw [h2]; simp
  rw [h1, h3]
  unfold loadv
  rw [if_pos (by simp), List.drop_left]
  rfl
/-- Files as an object of one's own, or none. -/
def FR (H X : Heap) (v : HV) (f : List Fl) : Prop := (v = .sl .full 2 [] ∧ f = []) ∨ ∃ b c zs, v = .v (.slice (some ⟨b, 0, none⟩) f.length c) ∧ X b = some (.obj ((f.map rfV).flatMap HV.cells ++ zs)) ∧ f.length ≤ c ∧ c ≤ maxLen ∧ H b = none
theorem FR.one {H X : Heap} {v : HV} {f : List Fl} (h : FR H X v f) : v.one = true ∧ v.el = true ∧ v.ncells = 1 ∧ v.cells = [v] := by
  rcases h with ⟨rfl, _⟩ | ⟨b, c, zs, rfl, _⟩ <;> exact ⟨rfl, rfl, rfl, rfl⟩
theorem FR.obj {H X : Heap} {v : HV} {f : List Fl} (h : FR H X v f) (hf : 0 < f.length) : ∃ b c zs, v = .v (.slice (some ⟨b, 0, none⟩) f.length c) ∧ X b = some (.obj ((f.map rfV).flatMap HV.cells ++ zs)) ∧ f.length ≤ c ∧ c ≤ maxLen ∧ H b = none := by
  rcases h with ⟨_, rfl⟩ | h
  · cases hf
  · exact h
theorem took_wf {d : Dk} {n m : Nat} (h : d.WF n m) (k : Nat) : ({ d with loose := d.loose.take k } : Dk).WF n m := by
  have hk : (d.loose.take k).length ≤ d.loose.length := by rw [List.length_take]; omega
  have := h.len
  exact ⟨h.sn, chain_take k h.ch, by show d.sure.length + (d.loose.take k).length ≤ n; omega, h.fl, h.op, h.ids, fun c hc => h.idc c (List.mem_of_mem_take hc), h.sz, h.rm, h.fa, h.wr⟩
theorem r_appFR {S' : SpecT} {sl : List (Nat × EV)} {bx : List (Nat × List HV)} {H0 H : Heap} {K : Env → Heap → Prop} {os : List SOper} {d bytes : Nat} {x y : Opd} {f : List Fl} (hf : Fr [] H0 H) (hx : (M sl bx).hv x = some (.sl .full 2 [])) (hy : (M sl bx).hv y = some (.sl .no 2 (f.map rfV))) (hl : f.length * bytes ≤ 140737488355328)
    (hk : ∀ v X, FR H0 X v f → Fr [] H0 X → rsem S' os (M ((d, .h v) :: sl) bx) X K) : rsem S' (⟨some d, .app 2 bytes x y, none⟩ :: os) (M sl bx) H K := by
  by_cases h0 : f = []
  · subst h0
    rw [rsem_cons]
    refine .inr ?_
    simp only [hx, hy, appK, rdm, if_true, List.map_nil, List.length_nil]
    refine ⟨trivial, fun _ => ?_, fun h => absurd rfl h⟩
    rw [rK_app, M_put]; exact hk _ _ (.inl ⟨rfl, rfl⟩) hf
  · have hlen : f.length ≠ 0 := fun h => h0 (List.eq_nil_of_length_eq_zero h)
    refine r_appE hx hy (m := f.length) (ys := (f.map rfV).flatMap HV.cells) (by simp only [rdm, if_true, List.length_map]) hlen hl fun b c zs X h1 h2 h3 h4 h5 h6 h7 => ?_
    exact hk _ _ (.inr ⟨b, c, zs, rfl, h6, h2, h3, hf.of_none h1⟩) (hf.trans h7)
attribute [local irreducible] csem rsem dsem seqK blockK normK finK DK RK JK BR G3 resK Spec Tok Fr CV GA

theorem rcrash_spec (L : Linked code) (d : Dk) (count : Int) (keep : List UInt8) (n m : Nat) (hw : d.WF n m) (hn : n < 1048000) (hm : m ≤ 140737488355328) (hkl : keep.length ≤ 1048576) : PureF L 318 [rkV d, I count, .sl .no 1 (keep.map U)] (rkV (d.crash count keep)) := by
  intro H K hk
  unfold Dk.crash at hk
  have hkk : (max 0 (min count (d.loose.length : Int))).toNat ≤ d.loose.length := by omega
  have hki : max 0 (min count (d.loose.length : Int)) = ((max 0 (min count (d.loose.length : Int))).toNat : Int) := by omega
  generalize hkd : (max 0 (min count (d.loose.length : Int))).toNat = k at hk hkk hki
  dsimp only at hk
  have hw1 := took_wf hw k
  have hfl := hw.fl
  refine go_spec L code318 rfl ?_
  repeat (refine gk rkU ?_)
  apply r_slcH (k := k); (focus rfl); (focus rfl); (focus exact hki); (focus (simp; exact hkk))
  rw [← List.map_take]
  repeat (refine gk rkU ?_)
  (apply r_call; (focus rfl))
  refine rnames_spec L { d with loose := d.loose.take k } n m hw1 hn H _ fun X1 f1 => ?_
  have hnow : ({ d with loose := d.loose.take k } : Dk).now = appAll d.sure (d.loose.take k) := rfl
  have hok := hw1.now_ok
  have hnl := hw1.now_len
  rw [hnow] at hok hnl ⊢
  generalize appAll d.sure (d.loose.take k) = l at *
  repeat (refine gk rkU ?_)
  refine r_appFR f1 rfl rfl (by omega) fun fv X2 hF2 f2 => ?_
  have hone := hF2.one
  repeat (refine gk rkU ?_)
  apply r_storeb; (focus rfl); (focus exact hone.2.2.1); (focus exact hone.2.1); (focus rfl); (focus rfl); (focus rfl); (focus (rw [hone.2.2.2]))
  have e0 : setL [I d.room, HV.sl .no 3 (l.map rnV), .v (.slice none 0 0), .sl .no 2 (d.f.map rfV), B d.down, I d.ops, I d.fails, B d.done, I d.wrong] (0 + 3) [fv] = [I d.room, HV.sl .no 3 (l.map rnV), .v (.slice none 0 0), fv, B d.down, I d.ops, I d.fails, B d.done, I d.wrong] := rfl
  rw [e0]
  repeat (refine gk rkU ?_)
  refine c_loop (Spec_SMono L) (fun (q : Nat × List Fl × List UInt8) => [(2, .h (.sl .no 1 (q.2.2.map U))), (3, .lp 0 0), (6, .lp 1 0), (7, .h (I q.1))]) (fun q => [(0, [I d.room, .sl .no 3 (l.map rnV), .v (.slice none 0 0), fv, B d.down, I d.ops, I d.fails, B d.done, I d.wrong]), (1, [I 0, .v (.slice none 0 0), .v (.slice none 0 0), .v (.slice none 0 0), B false, I 0, I 0, B false, I 0])])
    (fun q X => q.1 ≤ l.length ∧ Fr [] H X ∧ FR H X fv q.2.1 ∧ crashF (l.drop q.1) q.2.1 q.2.2 = crashF l d.f keep ∧ q.2.1.length = d.f.length ∧ (∀ x ∈ q.2.1, x.b.length ≤ m ∧ x.safe ≤ x.b.length) ∧ q.2.2.length ≤ 1048576) (fun q => l.length - q.1) (0, d.f, keep) ?_ ⟨by simp, f2, hF2, rfl, rfl, hw.sz, hkl⟩ ?_
  · (refine leM ?_ ?_ ?_ <;> (repeat refine leS trivial ?_) <;> exact leE)
  rintro ⟨j, f, kp⟩ X ⟨hj, hfX, hF, hcr, hfl2, hsz, hkp⟩
  dsimp only at hj hfX hF hcr hfl2 hsz hkp ⊢
  repeat (refine gk rkU ?_)
  (refine ct rkU ?_ ?_ <;> intro hcj)
  rotate_left
  · have hj' : j = l.length := by have : ¬ j < l.length := by simpa using hcj
                                  omega
    subst hj'
    rw [List.drop_length, crashF] at hcr
    rw [← hcr] at hk
    rcases hF with ⟨rfl, rfl⟩ | ⟨fb, c, zs, rfl, k1, k2, k3, k4⟩
    · repeat (refine gk rkU ?_)
      exact resK_weak (rkW (d := { d with sure := l, loose := [], f := [], down := false, fails := -1, wrong := -1, done := false }) (Weak.refl _) (Weak.nil' 2) (Weak.drop _ _ _)) (hk X hfX)
    have hlf := rlen_f f _ rfl
    have hfw : FW fb ((f.map rfV).flatMap HV.cells ++ zs) (.v (.slice (some ⟨fb, 0, none⟩) f.length c)) (.sl .no 2 (f.map rfV)) := by
      refine FW.slice ?_ ?_ (by simp) k2 k3 ?_ ?_
      · rw [List.take_append_of_le_length (by omega), List.take_of_length_le (by omega)]
      · rw [List.length_append]; omega
      · rw [List.all_eq_true]; intro x hx; obtain ⟨y, _, rfl⟩ := List.mem_map.mp hx; rfl
      · intro x hx; obtain ⟨y, _, rfl⟩ := List.mem_map.mp hx; rfl
    have hvw : FWL fb ((f.map rfV).flatMap HV.cells ++ zs) [I d.room, HV.sl .no 3 (l.map rnV), .v (.slice none 0 0), .v (.slice (some ⟨fb, 0, none⟩) f.length c), B d.down, I d.ops, I d.fails, B d.done, I d.wrong]
      [I d.room, HV.sl .no 3 (l.map rnV), .v (.slice none 0 0), .sl .no 2 (f.map rfV), B d.down, I d.ops, I d.fails, B d.done, I d.wrong] :=
      ⟨FW.refl _ _ _, FW.refl _ _ _, FW.refl _ _ _, hfw, FW.refl _ _ _, FW.refl _ _ _, FW.refl _ _ _, FW.refl _ _ _, FW.refl _ _ _, trivial⟩
    refine c_exit (s_e (k_e (b_e (s_v (vs_bx (k := 0) rfl k1 hvw rfl) ?_))))
    have hfr : Fr [] H (X.upd fb none) := Fr.give hfX k4
    repeat (refine gk rkU ?_)
    exact resK_weak (rkW (d := { d with sure := l, loose := [], f := f, down := false, fails := -1, wrong := -1, done := false }) (Weak.refl _) (Weak.nil' 2) (Weak.refl _)) (hk _ hfr)
  have hj' : j < l.length := by simpa using hcj
  have hid := (hok _ (List.getElem_mem hj')).2.1
  rw [List.drop_eq_getElem_cons hj', crashF] at hcr
  repeat (refine gk rkU ?_)
  (refine ct rkU ?_ ?_ <;> intro c2)
  · rw [if_pos c2] at hcr
    repeat (refine gk rkU ?_)
    refine k_n (j + 1, f, kp) (by simp only; omega) ⟨by simp only; omega, hfX, hF, hcr, hfl2, hsz, hkp⟩ ?_
    (refine leM ?_ ?_ ?_ <;> (repeat refine leS trivial ?_) <;> exact leE)
  rw [if_neg (by simp [c2])] at hcr
  have hi := hid c2
  change l[j].id < d.f.length at hi
  rw [← hfl2] at hi
  obtain ⟨fb, c, zs, rfl, k1, k2, k3, k4⟩ := hF.obj (by omega)
  rw [getD_at hi] at hcr
  have hszi := hsz _ (List.getElem_mem hi)
  have hlr := load_row hi zs
  dsimp only at hcr
  repeat (refine gk rkU ?_)
  apply r_idxO; (focus rfl); (focus rfl); (focus omega)
  apply r_load; (focus rfl); (focus exact k1); (focus exact hlr)
  repeat (refine gk rkU ?_)
  have hcase : (decide ((0 : Int) < (f[l[j].id].b.length : Int) - (f[l[j].id].safe : Int)) = false) ∨ (decide ((0 : Int) < (f[l[j].id].b.length : Int) - (f[l[j].id].safe : Int)) = true ∧ kp = []) ∨
      (decide ((0 : Int) < (f[l[j].id].b.length : Int) - (f[l[j].id].safe : Int)) = true ∧ ∃ k0 kpN s, kp = k0 :: kpN ∧ s = f[l[j].id].safe + k0.toNat % (f[l[j].id].b.length - f[l[j].id].safe + 1)) := by
    cases hd : decide ((0 : Int) < (f[l[j].id].b.length : Int) - (f[l[j].id].safe : Int))
    · exact .inl rfl
    · cases kp with
      | nil => exact .inr (.inl ⟨rfl, rfl⟩)
      | cons k0 ks => exact .inr (.inr ⟨rfl, k0, ks, _, rfl, rfl⟩)
  rcases hcase with hd | ⟨hd, hk0⟩ | ⟨hd, k0, kpN, s, hkd, hsd⟩
  · rw [if_neg (by simp at hd; omega)] at hcr
    rw [hd]
    repeat (refine gk rkU ?_)
    apply r_idxO; (focus rfl); (focus rfl); (focus omega)
    apply r_storeO; (focus rfl); (focus rfl); (focus rfl); (focus rfl); (focus exact k1); (focus (rw [List.length_append, rlen_f _ _ rfl]; omega))
    intro Y y1 y2
    have e6 : setL ((f.map rfV).flatMap HV.cells ++ zs) (0 + (l[j].id : Int).toNat * 2) (HV.ag [S (f[l[j].id].b.take f[l[j].id].safe), I (f[l[j].id].safe : Nat)]).cells = ((f.set l[j].id ⟨f[l[j].id].b.take f[l[j].id].safe, f[l[j].id].safe⟩).map rfV).flatMap HV.cells ++ zs := by
      rw [Nat.zero_add]; exact set_row (g := rfV) (k := 2) (fun _ => rfl) hi ⟨f[l[j].id].b.take f[l[j].id].safe, f[l[j].id].safe⟩ zs
    have y3 : Y fb = some (.obj (setL ((f.map rfV).flatMap HV.cells ++ zs) (0 + (l[j].id : Int).toNat * 2) (HV.ag [S (f[l[j].id].b.take f[l[j].id].safe), I (f[l[j].id].safe : Nat)]).cells)) := y1
    rw [e6] at y3
    have hfl3 : (f.set l[j].id ⟨f[l[j].id].b.take f[l[j].id].safe, f[l[j].id].safe⟩).length = f.length := by simp
    repeat (refine gk rkU ?_)
    refine k_n (j + 1, f.set l[j].id ⟨f[l[j].id].b.take f[l[j].id].safe, f[l[j].id].safe⟩, kp) (by simp only; omega) ⟨by simp only; omega, hfX.own k4 y2, .inr ⟨fb, c, zs, by simp only [hfl3], y3, by simp only [hfl3]; exact k2, k3, k4⟩, hcr, by simp only [hfl3]; exact hfl2, fun y hy => ?_, hkp⟩ ?_
    · rcases List.mem_or_eq_of_mem_set hy with hy | rfl
      · exact hsz y hy
      · simp only [List.length_take]; omega
    (refine leM ?_ ?_ ?_ <;> (repeat refine leS trivial ?_) <;> exact leE)
  · subst hk0
    rw [if_neg (by simp)] at hcr
    rw [hd]
    repeat (refine gk rkU ?_)
    apply r_idxO; (focus rfl); (focus rfl); (focus omega)
    apply r_storeO; (focus rfl); (focus rfl); (focus rfl); (focus rfl); (focus exact k1); (focus (rw [List.length_append, rlen_f _ _ rfl]; omega))
    intro Y y1 y2
    have e6 : setL ((f.map rfV).flatMap HV.cells ++ zs) (0 + (l[j].id : Int).toNat * 2) (HV.ag [S (f[l[j].id].b.take f[l[j].id].safe), I (f[l[j].id].safe : Nat)]).cells = ((f.set l[j].id ⟨f[l[j].id].b.take f[l[j].id].safe, f[l[j].id].safe⟩).map rfV).flatMap HV.cells ++ zs := by
      rw [Nat.zero_add]; exact set_row (g := rfV) (k := 2) (fun _ => rfl) hi ⟨f[l[j].id].b.take f[l[j].id].safe, f[l[j].id].safe⟩ zs
    have y3 : Y fb = some (.obj (setL ((f.map rfV).flatMap HV.cells ++ zs) (0 + (l[j].id : Int).toNat * 2) (HV.ag [S (f[l[j].id].b.take f[l[j].id].safe), I (f[l[j].id].safe : Nat)]).cells)) := y1
    rw [e6] at y3
    have hfl3 : (f.set l[j].id ⟨f[l[j].id].b.take f[l[j].id].safe, f[l[j].id].safe⟩).length = f.length := by simp
    repeat (refine gk rkU ?_)
    refine k_n (j + 1, f.set l[j].id ⟨f[l[j].id].b.take f[l[j].id].safe, f[l[j].id].safe⟩, []) (by simp only; omega) ⟨by simp only; omega, hfX.own k4 y2, .inr ⟨fb, c, zs, by simp only [hfl3], y3, by simp only [hfl3]; exact k2, k3, k4⟩, hcr, by simp only [hfl3]; exact hfl2, fun y hy => ?_, hkp⟩ ?_
    · rcases List.mem_or_eq_of_mem_set hy with hy | rfl
      · exact hsz y hy
      · simp only [List.length_take]; omega
    (refine leM ?_ ?_ ?_ <;> (repeat refine leS trivial ?_) <;> exact leE)
  · subst hkd
    have hd' : f[l[j].id].safe < f[l[j].id].b.length := by simp at hd; omega
    rw [if_pos ⟨hd', by simp⟩] at hcr
    simp only [List.headD_cons, List.tail_cons] at hcr
    rw [← hsd] at hcr
    rw [hd]
    have hk8 := k0.toNat_lt
    have hlt := Nat.mod_lt k0.toNat (show f[l[j].id].b.length - f[l[j].id].safe + 1 > 0 by omega)
    have hs : s ≤ f[l[j].id].b.length := by omega
    repeat (refine gk rkU ?_)
    (refine ct rkU ?_ ?_ <;> intro hq)
    rotate_left
    · simp at hq
    have hg0 : ((k0 :: kpN).map U)[0]? = some (U k0) := rfl
    repeat (refine gk rkU ?_)
    have hb0 := Int.emod_nonneg (k0.toNat : Int) (show (f[l[j].id].b.length : Int) - (f[l[j].id].safe : Int) + 1 ≠ 0 by omega)
    have hb1 := Int.emod_lt_of_pos (k0.toNat : Int) (show (f[l[j].id].b.length : Int) - (f[l[j].id].safe : Int) + 1 > 0 by omega)
    have hse : (f[l[j].id].safe : Int) + (k0.toNat : Int) % ((f[l[j].id].b.length : Int) - (f[l[j].id].safe : Int) + 1) = (s : Int) := by
      rw [hsd]
      have e : (f[l[j].id].b.length : Int) - (f[l[j].id].safe : Int) + 1 = ((f[l[j].id].b.length - f[l[j].id].safe + 1 : Nat) : Int) := by omega
      rw [e, ← Int.natCast_emod, ← Int.natCast_add]
    rw [hse, wrap_in (by omega) (by omega)]
    apply r_slcD (k := 1); (focus rfl); (focus rfl); (focus rfl); (focus simp)
    rw [List.map_cons, List.drop_succ_cons, List.drop_zero]
    repeat (refine gk rkU ?_)
    apply r_idxO; (focus rfl); (focus rfl); (focus omega)
    apply r_storeO; (focus rfl); (focus rfl); (focus rfl); (focus rfl); (focus exact k1); (focus (rw [List.length_append, rlen_f _ _ rfl]; omega))
    intro Y y1 y2
    have e6 : setL ((f.map rfV).flatMap HV.cells ++ zs) (0 + (l[j].id : Int).toNat * 2) (HV.ag [S (f[l[j].id].b.take s), I (s : Nat)]).cells = ((f.set l[j].id ⟨f[l[j].id].b.take s, s⟩).map rfV).flatMap HV.cells ++ zs := by
      rw [Nat.zero_add]; exact set_row (g := rfV) (k := 2) (fun _ => rfl) hi ⟨f[l[j].id].b.take s, s⟩ zs
    have y3 : Y fb = some (.obj (setL ((f.map rfV).flatMap HV.cells ++ zs) (0 + (l[j].id : Int).toNat * 2) (HV.ag [S (f[l[j].id].b.take s), I (s : Nat)]).cells)) := y1
    rw [e6] at y3
    have hfl3 : (f.set l[j].id ⟨f[l[j].id].b.take s, s⟩).length = f.length := by simp
    repeat (refine gk rkU ?_)
    refine k_n (j + 1, f.set l[j].id ⟨f[l[j].id].b.take s, s⟩, kpN) (by simp only; omega) ⟨by simp only; omega, hfX.own k4 y2, .inr ⟨fb, c, zs, by simp only [hfl3], y3, by simp only [hfl3]; exact k2, k3, k4⟩, hcr, by simp only [hfl3]; exact hfl2, fun y hy => ?_, by have h9 := hkp; simp only [List.length_cons] at h9 ⊢; omega⟩ ?_
    · rcases List.mem_or_eq_of_mem_set hy with hy | rfl
      · exact hsz y hy
      · simp only [List.length_take]; omega
    (refine leM ?_ ?_ ?_ <;> (repeat refine leS trivial ?_) <;> exact leE)
end Sm
