/- Contracts of the reference's account of package assizeref02, third part: Take where there is room, Give. -/
import Derived.Test.YthmllfejnmbfgaaK
namespace Go.Proofs.Ythmllfejnmbfgaa
open Go.RowKit
set_option linter.unusedVariables false
set_option linter.unusedSimpArgs false

theorem nums_self {xs : List Int} (rest : List Value) {k : Nat} (h : k < xs.length) (x : Int) : ((Nums xs ++ rest).set k (.int .i64 x))[k]? = some (.int .i64 x) :=
  List.getElem?_set_self (by simp [Nums]; omega)
theorem blk_type {w : World} {g : Nat} {T T' : TypeId} {vs vs' : List Value} (h : Blk w g T vs) (h' : Blk w g T' vs') : T = T' := by
  have e := h.symm.trans h'
  injection e with e
  injection e
theorem rtake_close {w : World} {b gl gu gp cl cu cp : Nat} {ls us ps us' ps' : List Int} {rl ru rp : List Value} (g0 : Blk w b 43 [.slice (some ⟨gl, 0, none⟩) ls.length cl, .slice (some ⟨gu, 0, none⟩) us.length cu, .slice (some ⟨gp, 0, none⟩) ps.length cp])
    (g1 : Blk w gl 3 (Nums ls ++ rl)) (g2 : Blk w gu 3 (Nums us' ++ ru)) (g3 : Blk w gp 3 (Nums ps' ++ rp)) (hn : gl ≠ gu ∧ gl ≠ gp ∧ gu ≠ gp) (h16 : ls.length ≤ 16) (hu : us.length = ls.length) (hp : ps.length = ls.length) (hu' : us'.length = us.length) (hp' : ps'.length = ps.length) :
    RA w b gl gu gp ls us' ps' := ⟨cl, cu, cp, rl, ru, rp, by rw [hu', hp']; exact g0, g1, g2, g3, hn, h16, by omega, by omega⟩
set_option maxHeartbeats 1600000 in
set_option maxRecDepth 100000 in
theorem rtake_ok {w : World} {b gl gu gp : Nat} {ls us ps : List Int} (k : Nat) (n : Int) (h : RA w b gl gu gp ls us ps) (hk : k < ls.length) (hn : 0 ≤ n)
    (hl : 0 ≤ us.getD k 0 ∧ us.getD k 0 ≤ ls.getD k 0 ∧ ls.getD k 0 ≤ 9223372036854775807) (hf : ¬ ls.getD k 0 - us.getD k 0 < n) :
    Calls Try.prog 20 #[.pointer (some ⟨b, 0, none⟩), .int .i64 k, .int .i64 n] w fun e w' => e = .returned (.int .i64 0) ∧
      RA w' b gl gu gp ls (us.set k (us.getD k 0 + n)) (ps.set k (max (ps.getD k 0) (us.getD k 0 + n))) ∧ Fr (fun i => i = gu ∨ i = gp) w w' := by
  have h' := h
  obtain ⟨cl, cu, cp, rl, ru, rp, a0, a1, a2, a3, ⟨n1, n2, n3⟩, h16, hu, hp⟩ := h'
  have c0 := a0.cell 0
  have c1 := a0.cell 1
  have c2 := a0.cell 2
  have d0 := (a1.cell k).trans (nums_at rl hk)
  have d1 := (a2.cell k).trans (nums_at ru (show k < us.length by omega))
  have f1 := a2.free k
  simp only [List.getElem?_cons_zero, List.getElem?_cons_succ] at c0 c1 c2
  have hk1 : k < us.length := by omega
  have hk2 : k < ps.length := by omega
  have E1 := Lib.hid (nums_set ru hk1 (us.getD k 0 + n))
  have E2 := Lib.hid (nums_set rp hk2 (us.getD k 0 + n))
  have E3 := Lib.hid (nums_at rp hk2)
  have HH := Lib.hid h
  have HHu := Lib.hid hu
  have HHp := Lib.hid hp
  have NB : b ≠ gl ∧ b ≠ gu ∧ b ≠ gp := by
    have t : ∀ g xs r, Blk w g 3 (Nums xs ++ r) → b ≠ g := fun g xs r hb e => by
      subst e
      exact absurd (blk_type a0 hb) (by decide)
    exact ⟨t _ _ _ a1, t _ _ _ a2, t _ _ _ a3⟩
  have A0 := Lib.hid a0
  have A1 := Lib.hid a1
  have A2 := Lib.hid a2
  have A3 := Lib.hid a3
  have ES := Lib.hid (show ps.set k (ps.getD k 0) = ps by
    apply List.ext_getElem
    · simp
    · intro i h1 h2
      by_cases e : k = i
      · subst e; simp [List.getD_eq_getElem?_getD, hk2]
      · simp [List.getElem_set_ne e])
  generalize ls.getD k 0 = L at *
  generalize us.getD k 0 = U at *
  generalize ps.getD k 0 = P at *
  clear h hu hp a0 a1 a2 a3
  go_enter Try.func20, Try.ntmps20
  go_wp2_with (go_at_call 27; refine (is_in k HH.out hk).mono ?_; rintro e w' ⟨rfl, rfl⟩)
  go_quiet (fail)
  go_wp2
  go_region
  go_wp2
  have g2 := (A2.out.drewN (nq + 1)).set k (.int .i64 (U + n))
  rw [E1.out] at g2
  have g0 := (A0.out.drewN (nq + 1)).other ⟨gu, k, none⟩ (.int .i64 (U + n)) (fun e => NB.2.1 e.symm)
  have g1 := (A1.out.drewN (nq + 1)).other ⟨gu, k, none⟩ (.int .i64 (U + n)) (fun e => n1 e.symm)
  have g3 := (A3.out.drewN (nq + 1)).other ⟨gu, k, none⟩ (.int .i64 (U + n)) (fun e => n3 e)
  have gf := ((Fr.refl (fun i => i = gu ∨ i = gp) w).drewN (nq + 1)).set gu k (.int .i64 (U + n)) (.inl rfl)
  generalize (w.drewN (nq + 1)).setCell ⟨gu, k, none⟩ (.int .i64 (U + n)) = w1 at *
  have c1' := g0.cell 1
  have c2' := g0.cell 2
  have d1' := (g2.cell k).trans (nums_at ru (show k < (us.set k (U + n)).length by simp; exact hk1))
  have d2' := (g3.cell k).trans E3.out
  have f2' := g3.free k
  simp only [List.getElem?_cons_zero, List.getElem?_cons_succ] at c1' c2'
  have e0 : (us.set k (U + n)).getD k 0 = U + n := by simp [List.getD_eq_getElem?_getD, hk1]
  rw [e0] at d1'
  have G0 := Lib.hid g0
  have G1 := Lib.hid g1
  have G2 := Lib.hid g2
  have G3 := Lib.hid g3
  have GF := Lib.hid gf
  clear g0 g1 g2 g3 gf e0 c0 c1 c2 d0 d1 f1 hl
  go_quiet (fail)
  go_wp2
  · go_region
    go_wp2
    go_ret
    have hm : max P (U + n) = U + n := by omega
    rw [hm]
    have q3 := (G3.out.drewN 0).set k (.int .i64 (U + n))
    rw [E2.out] at q3
    have q0 := (G0.out.drewN 0).other ⟨gp, k, none⟩ (.int .i64 (U + n)) (fun e => NB.2.2 e.symm)
    have q1 := (G1.out.drewN 0).other ⟨gp, k, none⟩ (.int .i64 (U + n)) (fun e => n2 e.symm)
    have q2 := (G2.out.drewN 0).other ⟨gp, k, none⟩ (.int .i64 (U + n)) (fun e => n3 e.symm)
    have qf := (GF.out.drewN 0).set gp k (.int .i64 (U + n)) (.inr rfl)
    exact ⟨rfl, rtake_close q0 q1 q2 q3 ⟨n1, n2, n3⟩ h16 HHu.out HHp.out (by simp) (by simp), qf.os, qf.tape, qf.output, qf.size, qf.block⟩
  · go_ret
    have hm : max P (U + n) = P := by omega
    rw [hm, ES.out]
    exact ⟨rfl, rtake_close G0.out G1.out G2.out G3.out ⟨n1, n2, n3⟩ h16 HHu.out HHp.out (by simp) rfl, GF.out.os, GF.out.tape, GF.out.output, GF.out.size, GF.out.block⟩

set_option maxHeartbeats 1600000 in
set_option maxRecDepth 100000 in
theorem rgive_in {w : World} {b gl gu gp : Nat} {ls us ps : List Int} (k : Nat) (n : Int) (h : RA w b gl gu gp ls us ps) (hk : k < ls.length) (hn : 0 ≤ n) (hm : n ≤ 9223372036854775807) (hl : us.getD k 0 ≤ 9223372036854775807) :
    Calls Try.prog 21 #[.pointer (some ⟨b, 0, none⟩), .int .i64 k, .int .i64 n] w fun e w' => e = .returned (.tuple #[]) ∧
      RA w' b gl gu gp ls (us.set k (qsub (us.getD k 0) n)) ps ∧ Fr (fun i => i = gu ∨ i = gp) w w' := by
  have h' := h
  obtain ⟨cl, cu, cp, rl, ru, rp, a0, a1, a2, a3, ⟨n1, n2, n3⟩, h16, hu, hp⟩ := h'
  have c1 := a0.cell 1
  have d1 := (a2.cell k).trans (nums_at ru (show k < us.length by omega))
  have f1 := a2.free k
  simp only [List.getElem?_cons_zero, List.getElem?_cons_succ] at c1
  have hk1 : k < us.length := by omega
  have NB : b ≠ gu := fun e => by subst e; exact absurd (blk_type a0 a2) (by decide)
  have q2 := (a2.drewN 0).set k (.int .i64 (qsub (us.getD k 0) n))
  rw [nums_set ru hk1 (qsub (us.getD k 0) n)] at q2
  have q0 := (a0.drewN 0).other ⟨gu, k, none⟩ (.int .i64 (qsub (us.getD k 0) n)) (fun e => NB e.symm)
  have q1 := (a1.drewN 0).other ⟨gu, k, none⟩ (.int .i64 (qsub (us.getD k 0) n)) (fun e => n1 e.symm)
  have q3 := (a3.drewN 0).other ⟨gu, k, none⟩ (.int .i64 (qsub (us.getD k 0) n)) (fun e => n3 e)
  have qf := ((Fr.refl (fun i => i = gu ∨ i = gp) w).drewN 0).set gu k (.int .i64 (qsub (us.getD k 0) n)) (.inl rfl)
  have R := Lib.hid (rtake_close q0 q1 q2 q3 ⟨n1, n2, n3⟩ h16 hu hp (by simp) rfl)
  have QF := Lib.hid qf
  have HH := Lib.hid h
  clear h hu hp a0 a1 a2 a3 q0 q1 q2 q3 qf
  generalize us.getD k 0 = U at *
  go_enter Try.func21, Try.ntmps21
  go_wp2_with (go_at_call 27; refine (is_in k HH.out hk).mono ?_; rintro e w' ⟨rfl, rfl⟩)
  go_region_with (go_at_call 10; refine (rsub_any _ _ hl hm).mono ?_; rintro e w' ⟨rfl, rfl⟩)
  all_goals
    go_end0
    exact ⟨rfl, R.out, QF.out.os, QF.out.tape, QF.out.output, QF.out.size, QF.out.block⟩
theorem rgive_neg {w : World} {b gl gu gp : Nat} {ls us ps : List Int} (k : Nat) (n : Int) (h : RA w b gl gu gp ls us ps) (hk : k < ls.length) (hn : n < 0) :
    Calls Try.prog 21 #[.pointer (some ⟨b, 0, none⟩), .int .i64 k, .int .i64 n] w fun e w' => e = .returned (.tuple #[]) ∧ w' = w := by
  have hd : decide (0 ≤ n) = false := by simp; omega
  go_enter Try.func21, Try.ntmps21
  go_wp2_with (go_at_call 27; refine (is_in k h hk).mono ?_; rintro e w' ⟨rfl, rfl⟩)
  go_end0
  exact ⟨rfl, rfl⟩
theorem rgive_out {w : World} {b gl gu gp : Nat} {ls us ps : List Int} (k n : Int) (h : RA w b gl gu gp ls us ps) (hk : k < 0 ∨ ls.length ≤ k) :
    Calls Try.prog 21 #[.pointer (some ⟨b, 0, none⟩), .int .i64 k, .int .i64 n] w fun e w' => e = .returned (.tuple #[]) ∧ w' = w := by
  go_enter Try.func21, Try.ntmps21
  go_wp2_with (go_at_call 27; refine (is_out k h hk).mono ?_; rintro e w' ⟨rfl, rfl⟩)
  go_end0
  exact ⟨rfl, rfl⟩
end Go.Proofs.Ythmllfejnmbfgaa
