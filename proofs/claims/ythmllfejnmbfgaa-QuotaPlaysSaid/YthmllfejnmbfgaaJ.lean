/- Contracts of the reference's account of package assizeref02, first part: New. -/
import Derived.Test.YthmllfejnmbfgaaH
import Derived.Deep.RegionLawGrows
import Derived.Laws.MakeOwn
import Derived.Laws.NewBlocks
import Derived.Deep.OwnRows
import Derived.Outline
namespace Go.Proofs.Ythmllfejnmbfgaa
open Go.RowKit
set_option linter.unusedVariables false
set_option linter.unusedSimpArgs false

theorem Blk.new (w : World) (T : TypeId) (vs : List Value) : Blk (w.alloc (.cells vs.toArray T)) w.heap.size T vs := by
  show (w.heap.push _)[w.heap.size]? = _
  exact Array.getElem?_push_size
theorem Blk.new' (w : World) (n : Nat) (T : TypeId) (vs : List Value) (h : n = w.heap.size) : Blk (w.alloc (.cells vs.toArray T)) n T vs := by
  subst h; exact Blk.new w T vs
/-- A row of whole numbers behind a slice of n elements. -/
def IRow (w : World) (base : Nat) (v : Value) (xs : List Int) : Prop :=
  ∃ g cap rest, v = .slice (some ⟨g, 0, none⟩) xs.length cap ∧ base ≤ g ∧ xs.length ≤ cap ∧ cap ≤ maxLen ∧ Blk w g 3 (Nums xs ++ rest)

/-- What is told of numbers that lie in memory. -/
def ICells (w : World) (a : Option Addr) (xs : List Int) : Prop :=
  0 < xs.length → ∃ lb lo : Nat, a = some ⟨lb, lo, none⟩ ∧ lb < w.heap.size ∧ ∀ j, j < xs.length → w.cell? ⟨lb, lo + j, none⟩ = some (.int .i64 (xs.getD j 0))
theorem ICells.fr {w w' : World} {a : Option Addr} {xs : List Int} {S : Nat → Prop} (h : ICells w a xs) (hf : Fr S w w') (hS : ∀ b, a.map (·.block) = some b → ¬ S b) : ICells w' a xs := fun hp => by
  obtain ⟨lb, lo, rfl, hl, hc⟩ := h hp
  exact ⟨lb, lo, rfl, Nat.lt_of_lt_of_le hl hf.size, fun j hj => (hf.cell (a := ⟨lb, lo + j, none⟩) hl (hS lb rfl)).trans (hc j hj)⟩

theorem rnew_bad {w : World} (a : Option Addr) (c n : Nat) (h : n < 1 ∨ 16 < n) (hn : n ≤ 140737488351232) :
    Calls Try.prog 19 #[.slice a n c] w fun e w' => e = .returned (.pointer none) ∧ w = w' := by
  rcases h with h | h
  · go_enter Try.func19, Try.ntmps19
    go_wp2
    go_ret
    exact ⟨rfl, rfl⟩
  · have h1 : ¬ n < 1 := by omega
    go_enter Try.func19, Try.ntmps19
    go_wp2
    go_ret
    exact ⟨rfl, rfl⟩
/-- The first number below zero ends it. -/
theorem rnew_neg {w : World} (lb lo c : Nat) (zs : List Int) (h1 : 1 ≤ zs.length) (h16 : zs.length ≤ 16)
    (hc : ∀ j, j < zs.length → w.cell? ⟨lb, lo + j, none⟩ = some (.int .i64 (zs.getD j 0))) (hneg : ∃ j, j < zs.length ∧ zs.getD j 0 < 0) :
    Calls Try.prog 19 #[.slice (some ⟨lb, lo, none⟩) zs.length c] w fun e w' => e = .returned (.pointer none) ∧ w = w' := by
  have HN := Lib.hid hneg
  clear hneg
  go_enter Try.func19, Try.ntmps19
  go_wp2
  go_loop [3] (fun i => ∃ k : Nat, k ≤ zs.length ∧ i = .int .i64 k ∧ ∀ j, j < k → ¬ zs.getD j 0 < 0) (fun i => zs.length - (intOf i).toNat)
  case atStart => exact ⟨0, Nat.zero_le _, rfl, fun j hj => by omega⟩
  case round =>
    obtain ⟨k, hk, rfl, hj⟩ := hrel
    have HJ := Lib.hid hj
    have hcx : k < zs.length → w.cell? ⟨lb, lo + k, none⟩ = some (.int .i64 (zs.getD k 0)) := fun h => hc k h
    clear hj
    by_cases hlt : k < zs.length
    · have hcy := hcx hlt
      clear hcx hc
      generalize hx : zs.getD k 0 = x at *
      have HX := Lib.hid hx
      clear hx
      by_cases hxn : x < 0
      · go_wp2
        go_ret
        exact ⟨rfl, rfl⟩
      · go_wp2
        go_round
        case rel => exact ⟨k + 1, by omega, by go_num, fun j hj => by
          rcases Nat.lt_succ_iff_lt_or_eq.1 hj with h | rfl
          · exact HJ.out j h
          · rw [HX.out]; exact hxn⟩
        case measure => simp [intOf]; omega
    · exfalso
      obtain ⟨j, h1, h2⟩ := HN.out
      exact HJ.out j (by omega) h2

structure RAcct (w : World) (base b : Nat) (ls us ps : List Int) : Prop where
  box : ∃ v1 v2 v3, Blk w b 43 [v1, v2, v3] ∧ IRow w base v1 ls ∧ IRow w base v2 us ∧ IRow w base v3 ps ∧ (v1.ownBlock ≠ v2.ownBlock ∧ v1.ownBlock ≠ v3.ownBlock ∧ v2.ownBlock ≠ v3.ownBlock)
  bge : base ≤ b

theorem made_zeros (n : Nat) : madeCells #[Value.int .i64 0] n = (Nums (List.replicate n 0)).toArray := by
  apply Array.ext'
  apply List.ext_getElem
  · simp [Nums, madeCells]
  · intro i h1 h2
    simp [Nums, madeCells, Nat.mod_one]
theorem nums_cells {w : World} {lb lo : Nat} {zs : List Int} (hc : ∀ j, j < zs.length → w.cell? ⟨lb, lo + j, none⟩ = some (.int .i64 (zs.getD j 0))) :
    ∀ j u, (Nums zs)[j]? = some u → w.cell? ((⟨lb, lo, none⟩ : Addr).add j) = some u := by
  intro j u hj
  have hl : j < zs.length := by
    have := (List.getElem?_eq_some_iff.1 hj).1
    simpa [Nums] using this
  have e : (⟨lb, lo, none⟩ : Addr).add j = ⟨lb, lo + j, none⟩ := by unfold Addr.add; split <;> simp_all
  rw [e, hc j hl]
  simp [Nums, List.getElem?_eq_getElem hl] at hj
  simp [List.getD_eq_getElem?_getD, List.getElem?_eq_getElem hl, hj]
theorem nums_one (zs : List Int) : ∀ u ∈ Nums zs, u.oneCell' = true := by
  intro u hu
  simp [Nums] at hu
  obtain ⟨x, _, rfl⟩ := hu
  rfl
theorem irow_own {w : World} {base : Nat} {v : Value} {n : Nat} {zs : List Int} (h : w.ownsRow base 3 1 v n (Nums zs)) (hn : zs.length = n) (h1 : 1 ≤ n) : IRow w base v zs := by
  rcases h.2 with ⟨_, h0⟩ | ⟨g, cap, cur, rfl, hg, hh, h2, h3, h4, h5⟩
  · omega
  · refine ⟨g, cap, cur.toList.drop (n * 1), by rw [hn], hg, by omega, h3, ?_⟩
    unfold Blk; rw [hh, ← h5, List.take_append_drop]
theorem irow_blk {w : World} {base g : Nat} {zs : List Int} (h : Blk w g 3 (Nums zs)) (hg : base ≤ g) (hm : zs.length ≤ maxLen) : IRow w base (.slice (some ⟨g, 0, none⟩) zs.length zs.length) zs :=
  ⟨g, zs.length, [], rfl, hg, Nat.le_refl _, hm, by simpa using h⟩
theorem IRow.fr {w w' : World} {base : Nat} {v : Value} {xs : List Int} {S : Nat → Prop} (h : IRow w base v xs) (hf : Fr S w w') (hS : ∀ g, v.ownBlock = some g → ¬ S g) : IRow w' base v xs := by
  obtain ⟨g, cap, rest, rfl, h1, h2, h3, h4⟩ := h
  exact ⟨g, cap, rest, rfl, h1, h2, h3, h4.fr hf (hS g rfl)⟩
theorem IRow.lt {w : World} {base : Nat} {v : Value} {xs : List Int} (h : IRow w base v xs) (g : Nat) (hg : v.ownBlock = some g) : g < w.heap.size := by
  obtain ⟨g', cap, rest, rfl, h1, h2, h3, h4⟩ := h
  obtain rfl : g' = g := by simpa [Value.ownBlock] using hg
  exact h4.lt

theorem app_facts {w W w' : World} {zs : List Int} {v' : Value} (hb : Below w.heap.size w W) (hown : w'.ownsRow W.heap.size 3 1 v' (0 + zs.length) ([] ++ Nums zs)) (hgrow : W.grownBy w' none) (h1 : 1 ≤ zs.length) :
    ∃ g cap, v' = .slice (some ⟨g, 0, none⟩) zs.length cap ∧ IRow w' w.heap.size (.slice (some ⟨g, 0, none⟩) zs.length cap) zs ∧ Below w.heap.size w w' ∧ Fr (fun _ => False) W w' ∧ W.heap.size ≤ g ∧ g < w'.heap.size := by
  simp only [Nat.zero_add, List.nil_append] at hown
  have hF : Fr (fun _ => False) W w' := (Fr.of_grown hgrow).mono fun i _ h => by cases h
  rcases hown.2 with ⟨_, h0⟩ | ⟨g, cap, cur, rfl, hg, hh, h2, h3, h4, h5⟩
  · omega
  · refine ⟨g, cap, rfl, ⟨g, cap, cur.toList.drop (zs.length * 1), rfl, Nat.le_trans hb.size hg, by omega, h3, ?_⟩, hb.grown hgrow hb.size (fun i h => by cases h), hF, hg, (Array.getElem?_eq_some_iff.1 hh).1⟩
    unfold Blk; rw [hh, ← h5, List.take_append_drop]
theorem IRow.alloc {w : World} {base : Nat} {v : Value} {xs : List Int} (h : IRow w base v xs) (o : Obj) : IRow (w.alloc o) base v xs := h.fr ((Fr.refl (fun _ => False) w).alloc o) (fun _ _ h => h)
theorem IRow.drew {w : World} {base : Nat} {v : Value} {xs : List Int} (h : IRow w base v xs) : IRow w.drew base v xs := h.fr ((Fr.refl (fun _ => False) w).drew) (fun _ _ h => h)

theorem RAcct.of {w : World} {base b : Nat} {ls us ps : List Int} {v1 v2 v3 : Value} (h : Blk w b 43 [v1, v2, v3]) (h1 : IRow w base v1 ls) (h2 : IRow w base v2 us) (h3 : IRow w base v3 ps)
    (hne : v1.ownBlock ≠ v2.ownBlock ∧ v1.ownBlock ≠ v3.ownBlock ∧ v2.ownBlock ≠ v3.ownBlock) (hb : base ≤ b) : RAcct w base b ls us ps := ⟨⟨v1, v2, v3, h, h1, h2, h3, hne⟩, hb⟩
theorem irow_zeros {w : World} {base g n : Nat} (h : Blk w g 3 (Nums (List.replicate n 0))) (hg : base ≤ g) (hm : n ≤ maxLen) : IRow w base (.slice (some ⟨g, 0, none⟩) n n) (List.replicate n 0) :=
  ⟨g, n, [], by simp, hg, by simp, hm, by simpa using h⟩
set_option maxHeartbeats 1600000 in
set_option maxRecDepth 100000 in
theorem rnew_ok {w : World} (lb lo c : Nat) (zs : List Int) (h1 : 1 ≤ zs.length) (h16 : zs.length ≤ 16) (hlb : lb < w.heap.size)
    (hc : ∀ j, j < zs.length → w.cell? ⟨lb, lo + j, none⟩ = some (.int .i64 (zs.getD j 0))) (hpos : ∀ j, j < zs.length → ¬ zs.getD j 0 < 0) :
    Calls Try.prog 19 #[.slice (some ⟨lb, lo, none⟩) zs.length c] w fun e w' => ∃ b, e = .returned (.pointer (some ⟨b, 0, none⟩)) ∧
      RAcct w' w.heap.size b zs (List.replicate zs.length 0) (List.replicate zs.length 0) ∧ Below w.heap.size w w' := by
  obtain ⟨i0, hi, hz0, hz1, hz2⟩ := info_parts Try.info3
  have HP := Lib.hid hpos
  clear hpos
  go_enter Try.func19, Try.ntmps19
  go_wp2
  go_loop [3] (fun i => ∃ k : Nat, k ≤ zs.length ∧ i = .int .i64 k) (fun i => zs.length - (intOf i).toNat)
  case atStart => exact ⟨0, Nat.zero_le _, rfl⟩
  case round =>
    obtain ⟨k, hk, rfl⟩ := hrel
    by_cases hlt : k < zs.length
    · have hcy := hc k hlt
      have hxn := HP.out k hlt
      clear hc
      generalize zs.getD k 0 = x at *
      go_wp2
      go_round
      case rel => exact ⟨k + 1, by omega, by go_num⟩
      case measure => simp [intOf]; omega
    · have hcell := Lib.hid (nums_cells hc)
      have hmk : ∀ W : World, (Instr.makeSlice 26 (.int .i64 zs.length) (.int .i64 zs.length)).run Try.prog W = .ok (.slice (some ⟨W.heap.size, 0, none⟩) zs.length zs.length) (W.alloc (.cells (Nums (List.replicate zs.length 0)).toArray 3)) := by
        intro W
        rw [← made_zeros]
        exact run_make_row' 26 3 (.int .i64 0) 8 Try.underlying26 (by kernel_rfl) rfl .i64 .i64 zs.length (by omega) (by omega) W
      clear hc
      go_wp2
      go_region_law (refine step_append_grows rfl (.tmp 23) (.tmp 24) 26 rfl 3 i0 (.int .i64 0) 1 8 Try.underlying26 hi hz0 hz1 hz2 rfl (by decide) (some _) 0 0 [] (by simp [Act.eval, Act.put]; rfl) (by simp) rfl (by simp) ⟨lb, lo, none⟩ zs.length c (Nums zs) (by simp [Act.eval, Act.put]) (by simp [Nums]) (fun j u hj => (Below.cell (B := w.heap.size) (by repeat (first | exact Below.refl _ _ | refine Below.drew ?_ | refine Below.alloc ?_ (by simp <;> omega) _)) (by unfold Addr.add; split <;> exact hlb)).trans (hcell.out j u hj)) (nums_one zs) (by omega) (by unfold maxLen; omega) (by omega) ?_; intro v' w' hown hgrow; obtain ⟨g, cap, rfl, hI, hB, hF, hg1, hg2⟩ := app_facts (w := w) (by repeat (first | exact Below.refl _ _ | refine Below.drew ?_ | refine Below.alloc ?_ (by simp <;> omega) _)) hown hgrow h1; clear hown hgrow)
      all_goals
        have hs := hF.size
        simp at hg1 hs
        go_wp2
        go_ret
        refine ⟨_, rfl, RAcct.of (Blk.new' _ _ _ [_, _, _] (by simp)) ?_ ?_ ?_ ?_ ?_, ?_⟩
      all_goals first
        | omega
        | ((repeat (first | with_reducible exact hI | with_reducible refine IRow.alloc ?_ _ | with_reducible refine IRow.drew ?_)); done)
        | (with_reducible refine irow_zeros ?_ (by first | omega | (simp <;> omega)) (by unfold maxLen; omega); (repeat (first | ((with_reducible refine Blk.new' _ _ _ (Nums _) ?_); (first | omega | (simp; done))) | with_reducible refine Blk.alloc ?_ _ | with_reducible refine Blk.drew ?_ | with_reducible refine Blk.fr ?_ hF id)); done)
        | (simp [Value.ownBlock] <;> omega)
        | ((repeat (first | with_reducible exact hB | with_reducible refine Below.drew ?_ | with_reducible refine Below.alloc ?_ (by first | omega | (simp <;> omega)) _)); done)
end Go.Proofs.Ythmllfejnmbfgaa
