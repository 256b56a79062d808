/-
  A layer of one's own: texts D18,D19.
-/
import Derived.Test.YtmdfajhlofhmcaaDoorSmDF
set_option linter.unusedVariables false
set_option linter.unusedSimpArgs false
set_option maxRecDepth 10000
set_option maxHeartbeats 1000000
namespace Sm
open Go
-- BASE dkU
theorem r_lenF {S' : SpecT} {sl : List (Nat × EV)} {bx : List (Nat × List HV)} {H : Heap} {K : Env → Heap → Prop} {os : List SOper} {d : Nat} {x : Opd} {v : HV} {l : List Fl} (hx : (M sl bx).hv x = some v) (hv : FS H v l) (h : rsem S' os (M ((d, .h (I l.length)) :: sl) bx) H K) : rsem S' (⟨some d, .len x, none⟩ :: os) (M sl bx) H K := by
  refine r_calm rfl ?_ h
  rcases hv with ⟨rfl, rfl⟩ | ⟨fb, c, zs, rfl, _⟩
  · simp only [SOp.ev, hx]; rfl
  · simp only [SOp.ev, hx]
theorem FS.rdm {H : Heap} {v : HV} {l : List Fl} (h : FS H v l) : Sm.rdm H 2 v = some (l.length, flsC l) := by
  rcases h with ⟨rfl, rfl⟩ | ⟨fb, c, zs, rfl, h1, h2, h3, h4, h5⟩
  · rfl
  · simp only [Sm.rdm, h1, Nat.zero_add, List.drop_zero]
    rw [if_pos (by rw [List.length_append, flsC_len]; omega), List.take_append_of_le_length (by rw [flsC_len]; exact Nat.le_refl _), List.take_of_length_le (by rw [flsC_len]; exact Nat.le_refl _)]
theorem rep_len (n : Nat) (z : List HV) : (List.replicate n z).flatten.length = n * z.length := by
  simp
attribute [local irreducible] csem rsem dsem seqK blockK normK finK DK RK JK BR G3 resK Spec Tok Fr CV

theorem sclone_spec (L : Linked code) (es : List HV) (hl : es.length ≤ 1048576) (H : Heap) (K) (hk : ∀ X, Fr [] H X → K (.sl .no 2 es) X) : Spec L.P L.ν 349 [.sl .no 2 es] H K := by
  refine go_spec L code349 rfl ?_
  repeat (refine gk dkU ?_)
  refine r_isnil rfl fun t ht => ?_
  cases t
  · repeat (refine gk dkU ?_)
    apply r_app; (focus rfl); (focus rfl); (focus exact Tok.ful2 _ _ _); (focus (simp; omega))
    intro tk' H' h1 h2
    repeat (refine gk dkU ?_)
    exact resK_weak (Weak.drop _ _ _) (hk H' h2.fr0)
  · have hl : es = [] := ht rfl
    subst hl
    repeat (refine gk dkU ?_)
    exact resK_weak (Weak.nil' 2) (hk H (Fr.refl _ _))
theorem dfork_spec (L : Linked code) (b : Nat) (h : Hd) (d : Dk) (n m : Nat) (hw : d.WF n m) (hn : n < 1048576) (H : Heap) (hD : KD H b h d)
    (K) (hk : ∀ X c h', KD X c h' d → (∀ a ∈ h'.bs c, H a = none) → Fr [] H X → K (ptr c) X) : Spec L.P L.ν 307 [ptr b] H K := by
  have ob := hD.ob
  have hlen := hw.len
  have hfl := hw.fl
  have h1v := fs_one hD.fs
  refine go_spec L code307 rfl ?_
  repeat (refine gk dkU ?_)
  refine r_allocH fun c hc => ?_
  have fn1 : Fr [] H (H.upd c (some (.obj [.v (.int .i64 0), .v (.map none), .v (.map none), .v (.slice none 0 0), .v (.slice none 0 0), .v (.bool false), .v (.int .i64 0), .v (.int .i64 0), .v (.bool false), .v (.int .i64 0)]))) := Fr.new hc
  generalize hX5 : H.upd c (some (.obj [.v (.int .i64 0), .v (.map none), .v (.map none), .v (.slice none 0 0), .v (.slice none 0 0), .v (.bool false), .v (.int .i64 0), .v (.int .i64 0), .v (.bool false), .v (.int .i64 0)])) = X1 at fn1
  have xa : X1 c = some (.obj [.v (.int .i64 0), .v (.map none), .v (.map none), .v (.slice none 0 0), .v (.slice none 0 0), .v (.bool false), .v (.int .i64 0), .v (.int .i64 0), .v (.bool false), .v (.int .i64 0)]) := by rw [← hX5, Heap.upd_same]
  repeat (refine gk dkU ?_)
  apply r_storeO; (focus rfl); (focus rfl); (focus (simp only [HV.el, List.all_cons, h1v]; rfl)); (focus rfl); (focus exact xa); (focus exact Nat.le_refl _)
  intro X2 x2 f2
  have x2' : X2 c = some (.obj [I d.room, .v (.map (some h.ms)), .v (.map (some h.mn)), .sl .no 2 (d.loose.map chgV), h.fv, B d.down, I d.ops, I d.fails, B d.done, I d.wrong]) := x2
  have g2 : Fr [] H X2 := fn1.own hc f2
  have nc := hD.new hc
  have hD2 := hD.fr0 g2
  have ob2 := hD2.ob
  repeat (refine gk dkU ?_)
  (apply r_call; (focus rfl))
  refine mclone_spec L h.ms d.sure X2 hD2.su _ fun m1 X3 hm1 hM1 g3 => ?_
  have hD3 := hD2.fr0 g3
  have ob3 := hD3.ob
  have x3' := g3.get (by simp) x2'
  repeat (refine gk dkU ?_)
  (apply r_call; (focus rfl))
  refine mclone_spec L h.mn d.now X3 hD3.no _ fun m2 X4 hm2 hM2 g4 => ?_
  have hD4 := hD3.fr0 g4
  have ob4 := hD4.ob
  have x4' := g4.get (by simp) x3'
  have hM1' := hM1.fr g4 (by simp)
  repeat (refine gk dkU ?_)
  (apply r_call; (focus rfl))
  refine sclone_spec L (d.loose.map chgV) (by simp; omega) X4 _ fun X5 g5 => ?_
  have hD5 := hD4.fr0 g5
  have x5' := g5.get (by simp) x4'
  have c1 : c ≠ m1 := fun e => by rw [← e, x2'] at hm1; cases hm1
  have c2 : c ≠ m2 := fun e => by rw [← e, x3'] at hm2; cases hm2
  have c12 : m1 ≠ m2 := fun e => by obtain ⟨r, hr⟩ := hM1.held; rw [e, hm2] at hr; cases hr
  have hM1a := hM1'.fr g5 (by simp)
  have hM2a := hM2.fr g5 (by simp)
  repeat (refine gk dkU ?_)
  refine sxk dkU ?_
  intro X6 x6 f6
  repeat (refine gk dkU ?_)
  refine sxk dkU ?_
  intro X7 x7 f7
  repeat (refine gk dkU ?_)
  refine sxk dkU ?_
  intro X8 x8 f8
  have f68 := (f6.trans f7).trans f8
  have hcb : ∀ a ∈ h.bs b, a ∉ [c] := fun a ha hm => by rw [List.mem_singleton] at hm; subst hm; exact nc ha
  have hD8 := hD5.fr f68 hcb
  have ob8 := hD8.ob
  have hM1b := hM1a.fr f68 (by simpa using c1.symm)
  have hM2b := hM2a.fr f68 (by simpa using c2.symm)
  repeat (refine gk dkU ?_)
  refine r_lenF rfl hD8.fs ?_
  repeat (refine gk dkU ?_)
  refine r_mks rfl ⟨by omega, by omega, by omega⟩ rfl fun nb X9 hnb x9 g9 => ?_
  have hD9 := hD8.fr0 g9
  have ob9 := hD9.ob
  have x8' : X8 c = some (.obj [I d.room, .v (.map (some m1)), .v (.map (some m2)), .sl .no 2 (d.loose.map chgV), h.fv, B d.down, I d.ops, I d.fails, B d.done, I d.wrong]) := x8
  have x9' := g9.get (by simp) x8'
  have hM1c := hM1b.fr g9 (by simp)
  have hM2c := hM2b.fr g9 (by simp)
  have cnb : c ≠ nb := fun e => by rw [← e, x8'] at hnb; cases hnb
  have nb1 : m1 ≠ nb := fun e => by obtain ⟨r, hr⟩ := hM1b.held; rw [e, hnb] at hr; cases hr
  have nb2 : m2 ≠ nb := fun e => by obtain ⟨r, hr⟩ := hM2b.held; rw [e, hnb] at hr; cases hr
  have nnb := hD8.new hnb
  repeat (refine gk dkU ?_)
  refine sxk dkU ?_
  intro X10 x10 f10
  have x9n := f10.get (by simpa using cnb.symm) x9
  have hD10 := hD9.fr f10 hcb
  have ob10 := hD10.ob
  have hM1d := hM1c.fr f10 (by simpa using c1.symm)
  have hM2d := hM2c.fr f10 (by simpa using c2.symm)
  rw [Int.toNat_natCast] at x10 x9n
  repeat (refine gk dkU ?_)
  refine r_copyO rfl hD10.fs.rdm x9n (by rw [rep_len]; simp) fun X11 x11 f11 => ?_
  have hcs : setL (List.replicate d.f.length [HV.v (Value.slice none 0 0), HV.v (Value.int IntKind.i64 0)]).flatten 0 ((flsC d.f).take (min d.f.length d.f.length * 2)) = flsC d.f ++ [] := by
    rw [Nat.min_self, List.take_of_length_le (by rw [flsC_len]; exact Nat.le_refl _), setL_eq _ _ _ (by rw [rep_len, flsC_len]; simp), List.take_zero, List.nil_append, List.drop_eq_nil_of_le (by rw [rep_len, flsC_len]; simp)]
  rw [hcs] at x11
  repeat (refine gk dkU ?_)
  have hnbs : ∀ a ∈ h.bs b, a ∉ [nb] := fun a ha hm => by rw [List.mem_singleton] at hm; subst hm; exact nnb ha
  have f2' : Fr [] H X2 := g2
  have FF : Fr [] H X11 := by
    refine Fr.make2 fun a r _ hr => ?_
    have ac : a ≠ c := fun e => by rw [e, hc] at hr; cases hr
    have r8 := f68.get (by simpa using ac) (g5.get (by simp) (g4.get (by simp) (g3.get (by simp) (g2.get (by simp) hr))))
    have an : a ≠ nb := fun e => by rw [e, hnb] at r8; cases r8
    exact f11.get (by simpa using an) (f10.get (by simpa using ac) (g9.get (by simp) r8))
  refine resK_some (hk X11 c ⟨m1, m2, .v (.slice (some ⟨nb, 0, none⟩) d.f.length d.f.length)⟩ ⟨?_, hM1d.fr f11 (by simpa using nb1), hM2d.fr f11 (by simpa using nb2), .inr ⟨nb, d.f.length, [], rfl, x11, Nat.le_refl _, ?_, by simp, rfl⟩, ?_⟩ (fun a ha => ?_) FF)
  · exact f11.get (by simpa using cnb) x10
  · show d.f.length ≤ maxLen
    have : (1048576 : Nat) ≤ maxLen := by decide
    omega
  · simp [Hd.bs, fvb, c1, c2, c12, cnb, nb1, nb2]
  · simp only [Hd.bs, fvb, List.mem_cons, List.not_mem_nil, or_false] at ha
    rcases ha with rfl | rfl | rfl | rfl
    · exact hc
    · exact g2.of_none hm1
    · exact (g2.trans g3).of_none hm2
    · cases hx : H a with
      | none => rfl
      | some r =>
        have ac : a ≠ c := fun e => by rw [e, hc] at hx; cases hx
        have r8 := f68.get (by simpa using ac) (g5.get (by simp) (g4.get (by simp) (g3.get (by simp) (g2.get (by simp) hx))))
        rw [hnb] at r8; cases r8
end Sm

set_option linter.unusedVariables false
set_option linter.unusedSimpArgs false
set_option maxRecDepth 10000
set_option maxHeartbeats 1000000
namespace Sm
open Go
-- BASE dkU
abbrev nilP : HV := .v (.pointer none)
/-- Files' bytes are given up one behind the other. -/
def EF (k : Nat) (H X : Heap) (l : List Ent) (r : HV) : Prop := ∃ eos : List Eo, eos.map Eo.e = l ∧ EB H X (eos.drop k) ∧ (∀ i, i < k → ∀ (h : i < eos.length), eos[i].v = .sl .no 1 (eos[i].e.data.map U)) ∧ (∀ x ∈ eos, x.v.one = true) ∧ r = .sl .no 3 (eos.map encO) ∧ Fr [] H X
attribute [local irreducible] csem rsem dsem seqK blockK normK finK DK RK JK BR G3 resK Spec Tok Fr CV

end Sm
