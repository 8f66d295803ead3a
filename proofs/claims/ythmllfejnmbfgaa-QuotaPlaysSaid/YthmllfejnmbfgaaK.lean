/- Contracts of the reference's account of package assizeref02, second part: Is, Take, Give. -/
import Derived.Test.YthmllfejnmbfgaaJ
import Derived.Deep.RegionWith
namespace Go.Proofs.Ythmllfejnmbfgaa
open Go.RowKit
set_option linter.unusedVariables false
set_option linter.unusedSimpArgs false

theorem nums_at {xs : List Int} (rest : List Value) {k : Nat} (h : k < xs.length) : (Nums xs ++ rest)[k]? = some (.int .i64 (xs.getD k 0)) := by
  rw [List.getElem?_append_left (by simpa [Nums] using h)]
  simp [Nums, List.getElem?_eq_getElem h, List.getD_eq_getElem?_getD]
theorem nums_set {xs : List Int} (rest : List Value) {k : Nat} (h : k < xs.length) (x : Int) : (Nums xs ++ rest).set k (.int .i64 x) = Nums (xs.set k x) ++ rest := by
  rw [List.set_append_left _ _ (by simpa [Nums] using h)]
  simp [Nums, List.map_set]

/-- The reference's account behind pointer b: its three rows. -/
def RA (w : World) (b gl gu gp : Nat) (ls us ps : List Int) : Prop :=
  ∃ cl cu cp rl ru rp, Blk w b 43 [.slice (some ⟨gl, 0, none⟩) ls.length cl, .slice (some ⟨gu, 0, none⟩) us.length cu, .slice (some ⟨gp, 0, none⟩) ps.length cp] ∧
    Blk w gl 3 (Nums ls ++ rl) ∧ Blk w gu 3 (Nums us ++ ru) ∧ Blk w gp 3 (Nums ps ++ rp) ∧ (gl ≠ gu ∧ gl ≠ gp ∧ gu ≠ gp) ∧ (ls.length ≤ 16 ∧ us.length = ls.length ∧ ps.length = ls.length)
theorem RAcct.ra {w : World} {base b : Nat} {ls us ps : List Int} (h : RAcct w base b ls us ps) (hl : ls.length ≤ 16) (hu : us.length = ls.length) (hp : ps.length = ls.length) :
    ∃ gl gu gp, RA w b gl gu gp ls us ps ∧ base ≤ gl ∧ base ≤ gu ∧ base ≤ gp ∧ base ≤ b := by
  obtain ⟨⟨v1, v2, v3, hb, ⟨g1, c1, r1, rfl, a1, a2, a3, a4⟩, ⟨g2, c2, r2, rfl, b1, b2, b3, b4⟩, ⟨g3, c3, r3, rfl, d1, d2, d3, d4⟩, n1, n2, n3⟩, hge⟩ := h
  simp [Value.ownBlock] at n1 n2 n3
  exact ⟨g1, g2, g3, ⟨c1, c2, c3, r1, r2, r3, hb, a4, b4, d4, ⟨n1, n2, n3⟩, hl, hu, hp⟩, a1, b1, d1, hge⟩
theorem RA.fr {w w' : World} {b gl gu gp : Nat} {ls us ps : List Int} {S : Nat → Prop} (h : RA w b gl gu gp ls us ps) (hf : Fr S w w') (h0 : ¬ S b) (h1 : ¬ S gl) (h2 : ¬ S gu) (h3 : ¬ S gp) : RA w' b gl gu gp ls us ps := by
  obtain ⟨cl, cu, cp, rl, ru, rp, a0, a1, a2, a3, hn, hl⟩ := h
  exact ⟨cl, cu, cp, rl, ru, rp, a0.fr hf h0, a1.fr hf h1, a2.fr hf h2, a3.fr hf h3, hn, hl⟩
def RAC (w : World) (b gl gu gp : Nat) (cs : List Cnt) : Prop := RA w b gl gu gp (cs.map (·.lim)) (cs.map (·.used)) (cs.map (·.peak))
def Fair (cs : List Cnt) : Prop := ∀ c ∈ cs, 0 ≤ c.used ∧ c.used ≤ c.lim ∧ c.lim ≤ 9223372036854775807 ∧ 0 ≤ c.peak ∧ c.peak ≤ c.lim

theorem is_in {w : World} {b gl gu gp : Nat} {ls us ps : List Int} (k : Nat) (h : RA w b gl gu gp ls us ps) (hk : k < ls.length) :
    Calls Try.prog 27 #[.pointer (some ⟨b, 0, none⟩), .int .i64 k] w fun e w' => e = .returned (.bool true) ∧ w = w' := by
  obtain ⟨cl, cu, cp, rl, ru, rp, a0, a1, a2, a3, hn, hl, hu, hp⟩ := h
  have c0 := a0.cell 0
  simp only [List.getElem?_cons_zero] at c0
  have h1 : decide ((0 : Int) ≤ k) = true := by simp
  have h2 : decide ((k : Int) < ls.length) = true := by simp; exact hk
  go_enter Try.func27, Try.ntmps27
  go_wp2
  go_ret
  exact ⟨rfl, rfl⟩
theorem is_out {w : World} {b gl gu gp : Nat} {ls us ps : List Int} (k : Int) (h : RA w b gl gu gp ls us ps) (hk : k < 0 ∨ ls.length ≤ k) :
    Calls Try.prog 27 #[.pointer (some ⟨b, 0, none⟩), .int .i64 k] w fun e w' => e = .returned (.bool false) ∧ w = w' := by
  obtain ⟨cl, cu, cp, rl, ru, rp, a0, a1, a2, a3, hn, hl, hu, hp⟩ := h
  have c0 := a0.cell 0
  simp only [List.getElem?_cons_zero] at c0
  rcases hk with hk | hk
  · have h1 : decide ((0 : Int) ≤ k) = false := by simp; omega
    go_enter Try.func27, Try.ntmps27
    go_wp2
    go_ret
    exact ⟨rfl, rfl⟩
  · have h1 : decide ((0 : Int) ≤ k) = true := by simp; omega
    have h2 : decide (k < ls.length) = false := by simp; omega
    go_enter Try.func27, Try.ntmps27
    go_wp2
    go_ret
    exact ⟨rfl, rfl⟩

/-- What Take answers and leaves. -/
def takeF (cs : List Cnt) (k n : Int) : Int × List Cnt :=
  if k < 0 ∨ cs.length ≤ k ∨ n < 0 then (1, cs) else
    if (cs.getD k.toNat ⟨0, 0, 0⟩).lim - (cs.getD k.toNat ⟨0, 0, 0⟩).used < n then (5, cs) else
      (0, cs.set k.toNat { lim := (cs.getD k.toNat ⟨0, 0, 0⟩).lim, used := (cs.getD k.toNat ⟨0, 0, 0⟩).used + n, peak := max (cs.getD k.toNat ⟨0, 0, 0⟩).peak ((cs.getD k.toNat ⟨0, 0, 0⟩).used + n) })
def giveF (cs : List Cnt) (k n : Int) : List Cnt :=
  if k < 0 ∨ cs.length ≤ k then cs else cs.set k.toNat { cs.getD k.toNat ⟨0, 0, 0⟩ with used := qsub (cs.getD k.toNat ⟨0, 0, 0⟩).used n }
theorem getD_at {cs : List Cnt} {k : Nat} (h : k < cs.length) : cs.getD k ⟨0, 0, 0⟩ = cs[k] := by simp [List.getD_eq_getElem?_getD, h]

theorem rtake_low {w : World} {b gl gu gp : Nat} {ls us ps : List Int} (k n : Int) (h : RA w b gl gu gp ls us ps) (hk : k < 0 ∨ ls.length ≤ k ∨ n < 0) :
    Calls Try.prog 20 #[.pointer (some ⟨b, 0, none⟩), .int .i64 k, .int .i64 n] w fun e w' => e = .returned (.int .i64 1) ∧ w' = w := by
  by_cases hk2 : k < 0 ∨ ls.length ≤ k
  · go_enter Try.func20, Try.ntmps20
    go_wp2_with (go_at_call 27; refine (is_out k h hk2).mono ?_; rintro e w' ⟨rfl, rfl⟩)
    go_ret
    exact ⟨rfl, rfl⟩
  · have hn : n < 0 := by omega
    obtain ⟨j, rfl⟩ := Int.eq_ofNat_of_zero_le (show 0 ≤ k by omega)
    have hj : j < ls.length := by omega
    clear hk hk2
    go_enter Try.func20, Try.ntmps20
    go_wp2_with (go_at_call 27; refine (is_in j h hj).mono ?_; rintro e w' ⟨rfl, rfl⟩)
    go_ret
    exact ⟨rfl, rfl⟩
theorem rtake_full {w : World} {b gl gu gp : Nat} {ls us ps : List Int} (k : Nat) (n : Int) (h : RA w b gl gu gp ls us ps) (hk : k < ls.length) (hn : 0 ≤ n)
    (hl : 0 ≤ us.getD k 0 ∧ us.getD k 0 ≤ ls.getD k 0 ∧ ls.getD k 0 ≤ 9223372036854775807) (hf : ls.getD k 0 - us.getD k 0 < n) :
    Calls Try.prog 20 #[.pointer (some ⟨b, 0, none⟩), .int .i64 k, .int .i64 n] w fun e w' => e = .returned (.int .i64 5) ∧ ∃ m, w' = w.drewN m := by
  have h' := h
  obtain ⟨cl, cu, cp, rl, ru, rp, a0, a1, a2, a3, hn1, h16, hu, hp⟩ := h'
  have c0 := a0.cell 0
  have c1 := a0.cell 1
  have d0 := (a1.cell k).trans (nums_at rl hk)
  have d1 := (a2.cell k).trans (nums_at ru (by omega))
  simp only [List.getElem?_cons_zero, List.getElem?_cons_succ] at c0 c1
  have hk1 : k < us.length := by omega
  generalize ls.getD k 0 = L at *
  generalize us.getD k 0 = U at *
  have HH := Lib.hid h
  clear h hu hp a0 a1 a2 a3
  go_enter Try.func20, Try.ntmps20
  go_wp2_with (go_at_call 27; refine (is_in k HH.out hk).mono ?_; rintro e w' ⟨rfl, rfl⟩)
  go_quiet (fail)
  go_wp2
  go_ret
  exact ⟨rfl, _, rfl⟩
end Go.Proofs.Ythmllfejnmbfgaa
