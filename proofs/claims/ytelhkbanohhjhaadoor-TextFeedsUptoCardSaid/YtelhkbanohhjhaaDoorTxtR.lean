/- Lines appended to lines; what holds within TextParts' loop. -/
import Derived.Test.YtelhkbanohhjhaaDoorTxtM
namespace Go.Proofs.YtelhkbanohhjhaaDoor.Tx
open Go.RowKit Go.Shelf Go.Proofs.YtelhkbanohhjhaaDoor.PFeed Go.Proofs.YtelhkbanohhjhaaDoorW.PrintWords
set_option linter.unusedVariables false
set_option linter.unusedSimpArgs false
theorem C_move {k : IntKind} {w W' : World} {A : Option Addr} {l : List Int} (hC : Kd.C (Kd.int k) w A l.length l) (hb : ∀ a, A = some a → 0 < l.length → W'.heap[a.block]? = w.heap[a.block]?) : Kd.C (Kd.int k) W' A l.length l := by
  obtain ⟨h1, h2, h3⟩ := hC
  refine ⟨h1, h2, fun h0 => ?_⟩
  obtain ⟨ad, e, hcell⟩ := h3 h0
  refine ⟨ad, e, fun j p hp => ?_⟩
  obtain ⟨cs, g1, g2, g3⟩ := hcell j p hp
  refine ⟨cs, g1, g2, fun i u hu => ?_⟩
  rw [← g3 i u hu]
  have hh := hb ad e h0
  have hb : ∀ n, (ad.add n).block = ad.block := fun n => by unfold Addr.add; split <;> rfl
  unfold World.cell?
  rw [hb, hh]
theorem add0 (g j : Nat) : (⟨g, 0, none⟩ : Addr).add j = ⟨g, j, none⟩ := by
  by_cases h : j = 0
  · subst h; rfl
  · simp [Addr.add, h]
theorem cellsL_app (xs ys : List S54) : cellsL (xs ++ ys) = cellsL xs ++ cellsL ys := by simp [cellsL, List.flatMap_append]
theorem cellsL_len (xs : List S54) : (cellsL xs).length = xs.length * 2 := by
  induction xs with
  | nil => rfl
  | cons x r ih => simp only [cellsL, List.flatMap_cons, List.length_append, List.length_cons, List.length_nil] at ih ⊢; omega
theorem cellsL_at : ∀ (xs : List S54) (i : Nat) (h : i < xs.length), (cellsL xs)[2 * i]? = some (.string xs[i].f0) ∧ (cellsL xs)[2 * i + 1]? = some (.int .i64 xs[i].f1)
  | [], i, h => absurd h (by simp)
  | x :: r, 0, _ => ⟨rfl, rfl⟩
  | x :: r, i + 1, h => by
    have := cellsL_at r i (by simpa using h)
    have e : cellsL (x :: r) = .string x.f0 :: .int .i64 x.f1 :: cellsL r := rfl
    rw [e, show 2 * (i + 1) = 2 * i + 1 + 1 by omega]
    simpa using this
theorem app_lines {W : World} {base b2 : Nat} {v : Value} {xs ys : List S54} {A : Option Addr} {c : Nat} (HO : W.ownsRow base 38 2 v xs.length (cellsL xs)) (HY : W.ownsRow b2 38 2 (.slice A ys.length c) ys.length (cellsL ys)) (hb : base ≤ W.heap.size) (hl : xs.length + ys.length ≤ 5000000) :
    ∃ v' w', (appOp #[32, 32] 32 #[v, .slice A ys.length c]).run Tryd.prog W = .ok v' w' ∧ w'.ownsRow base 38 2 v' (xs ++ ys).length (cellsL (xs ++ ys)) ∧ W.grownBy w' v.ownBlock ∧ (v'.ownBlock = v.ownBlock ∨ v'.ownBlock = some W.heap.size) := by
  obtain ⟨i0, hi, hz0, hz1, hz2⟩ := info_parts info38
  by_cases h0 : ys.length = 0
  · obtain rfl := List.eq_nil_of_length_eq_zero h0
    rcases HY.2 with ⟨e, _⟩ | ⟨g, cap, cur, e, _, hh, _⟩
    · injection e with e1 _ e2
      subst e1 e2
      exact ⟨v, W, run_append_owned_none W base _ _ _ i0 2 Tryd.underlying32 hi v xs.length (cellsL xs) HO, by simpa using HO, World.grownBy.refl W _, .inl rfl⟩
    · injection e with e1 _ e2
      subst e1 e2
      obtain ⟨v', w', h1, h2, h3, _, h5⟩ := run_append_own_at (P := Tryd.prog) W base 32 32 38 i0 (.agg #[.string ⟨#[]⟩, .int .i64 0]) 2 24 Tryd.underlying32 hi hz0 hz1 hz2 rfl (by decide) v xs.length (cellsL xs) HO ⟨g, 0, none⟩ 0 c [] rfl (by intro j u hj; simp at hj) (by intro u hu; cases hu) (by unfold maxLen; simp at hl ⊢; omega) (by simp at hl ⊢; omega) hb
      exact ⟨v', w', h1, by simpa using h2, h3, h5⟩
  · obtain ⟨g, c', e, _, hcell⟩ := own_cells HY (by omega)
    injection e with e1 _ e2
    subst e1 e2
    obtain ⟨v', w', h1, h2, h3, _, h5⟩ := run_append_own_at (P := Tryd.prog) W base 32 32 38 i0 (.agg #[.string ⟨#[]⟩, .int .i64 0]) 2 24 Tryd.underlying32 hi hz0 hz1 hz2 rfl (by decide) v xs.length (cellsL xs) HO ⟨g, 0, none⟩ ys.length c (cellsL ys) (cellsL_len ys)
      (by intro j u hj; rw [add0]; exact hcell j u hj) (by intro u hu; simp only [cellsL, List.mem_flatMap] at hu; obtain ⟨x, _, hx⟩ := hu; simp at hx; rcases hx with rfl | rfl <;> rfl) (by unfold maxLen; omega) (by omega) hb
    exact ⟨v', w', h1, by rw [cellsL_app, List.length_append]; exact h2, h3, h5⟩

/-- The lines that are told up to a place, and what is kept there. -/
def gotL (l : List Int) (fr : Nat) : List S54 := (spl [] (l.take fr)).1.map lnOf
def keptL (l : List Int) (fr : Nat) : List Int := (spl [] (l.take fr)).2
theorem gotL_len (l : List Int) (fr : Nat) : (gotL l fr).length ≤ l.length := by
  unfold gotL; rw [List.length_map]
  have := spl_len (l.take fr) []
  rw [List.length_take] at this; omega
theorem got_step (l : List Int) (fr tz : Nat) (h : fr ≤ tz) : gotL l tz = gotL l fr ++ (spl (keptL l fr) ((l.drop fr).take (tz - fr))).1.map lnOf ∧ keptL l tz = (spl (keptL l fr) ((l.drop fr).take (tz - fr))).2 := by
  have e : l.take tz = l.take fr ++ (l.drop fr).take (tz - fr) := by
    rw [← List.take_add, show fr + (tz - fr) = tz by omega]
  unfold gotL keptL
  rw [e, spl_app]
  exact ⟨by rw [List.map_append], rfl⟩
structure PI (w5 : World) (bb : Nat) (l : List Int) (fr : Nat) (v8 : Value) (W : World) : Prop where
  fm : Fr (fun k => k = bb) w5 W
  got : W.ownsRow w5.heap.size 38 2 v8 (gotL l fr).length (cellsL (gotL l fr))
  buf : ∃ u, BufAt W w5.heap.size bb u (keptL l fr)
theorem row_low {W : World} {base : Nat} {e : TypeId} {size n : Nat} {v : Value} {xs : List Value} (h : W.ownsRow base e size v n xs) {k : Nat} (hk : v.ownBlock = some k) : base ≤ k := by
  rcases h.2 with ⟨rfl, _⟩ | ⟨g, cap, cur, rfl, hg, hh, _⟩
  · simp [Value.ownBlock] at hk
  · simp [Value.ownBlock] at hk; omega
/-- A step: a chunk is fed, its lines are appended. -/
theorem PI.step {w5 : World} {bb : Nat} {l : List Int} {fr tz : Nat} {v8 : Value} {W : World} {u : Value} (h : PI w5 bb l fr v8 W) (hu : BufAt W w5.heap.size bb u (keptL l fr)) (hbb : bb < w5.heap.size) (hto : fr ≤ tz) (hl : l.length ≤ 1048576) {e : Ending} {w6 : World}
    (hF : FeedPost w5.heap.size bb u (keptL l fr) ((l.drop fr).take (tz - fr)) W e w6) :
    ∃ A n c v' w7, e = .returned (.slice A n c) ∧ (appOp #[32, 32] 32 #[v8, .slice A n c]).run Tryd.prog w6 = .ok v' w7 ∧ PI w5 bb l tz v' w7 := by
  obtain ⟨v, u', rfl, ho, hbu, hub, hf⟩ := hF
  obtain ⟨A, c, rfl⟩ := own_slice ho
  have hsz := h.fm.size
  have hbl := hu.blk
  obtain ⟨hg, hk⟩ := got_step l fr tz hto
  generalize hys : (spl (keptL l fr) ((l.drop fr).take (tz - fr))).1.map lnOf = ys at *
  have hylen : (spl (keptL l fr) ((l.drop fr).take (tz - fr))).1.length = ys.length := by rw [← hys, List.length_map]
  rw [hylen] at ho
  have hlen := gotL_len l tz
  rw [hg, List.length_append] at hlen
  have HO6 : w6.ownsRow w5.heap.size 38 2 v8 (gotL l fr).length (cellsL (gotL l fr)) := row_fr h.got hf (fun k hk hs => by
    obtain ⟨vs, q⟩ := row_blk h.got hk
    rcases hs with hs | hs
    · subst hs; exact absurd (blk_type q hbl) (by decide)
    · obtain ⟨vs', q'⟩ := row_blk hu.row hs; exact absurd (blk_type q q') (by decide))
  obtain ⟨v', w7, h1, h2, h3, h4⟩ := app_lines HO6 ho (by have := hf.size; omega) (by omega)
  have hf7 := Fr.of_grown h3
  have hn1 : ¬ v8.ownBlock = some bb := fun hs => by
    obtain ⟨vs, q⟩ := row_blk h.got hs; exact absurd (blk_type q hbl) (by decide)
  rw [hylen]
  refine ⟨A, ys.length, c, v', w7, rfl, h1, ?_, ?_, u', ?_, ?_⟩
  · exact (h.fm.trans hf (fun i hi hs => by
      rcases hs with hs | hs
      · exact hs
      · have := row_low hu.row hs; omega)).trans hf7 (fun i hi hs => by have := row_low h.got hs; omega)
  · rw [hg]; exact h2
  · rw [hk]; exact hbu.blk.fr hf7 hn1
  · rw [hk]; exact row_fr hbu.row hf7 (fun k hk1 hk2 => by
      obtain ⟨vs, q⟩ := row_blk hbu.row hk1
      obtain ⟨vs', q'⟩ := row_blk HO6 hk2
      exact absurd (blk_type q q') (by decide))
/-- Where a part of a slice begins. -/
def cutA (A : Option Addr) (c fr : Nat) : Option Addr := if c = fr then A else A.map (·.add fr)
theorem slice_run (w : World) (A : Option Addr) (n c fr q : Nat) (h1 : fr ≤ q) (h2 : q ≤ c) : (Instr.slice 22 (.slice A n c) (some (.int .i64 fr)) (some (.int .i64 q)) none).run Tryd.prog w = .ok (.slice (cutA A c fr) (q - fr) (c - fr)) w := by
  have e : (sizeOf (Tryd.prog.elem 22)).run Tryd.prog w = .ok 1 w := by kernel_rfl
  rw [run_slice_lh w 22 A n c Tryd.underlying22 .i64 .i64 fr q (by omega) (by omega) (by omega), e]
  simp [Result.andThen, sliced, cutA]
theorem cut_good {w : World} {T : Nat → Prop} {A : Option Addr} {c : Nat} {l : List Int} (h : It.good w T ⟨A, c, l, false⟩) (fr q : Nat) (h1 : fr ≤ q) (h2 : q ≤ l.length) :
    It.good w T ⟨cutA A c fr, c - fr, (l.drop fr).take (q - fr), false⟩ := by
  cases A with
  | none =>
    obtain rfl := h.2.2.2.2 rfl
    have hl : l = [] := by have := h.1; simpa using this
    subst hl
    obtain rfl : q = 0 := by simpa using h2
    obtain rfl : fr = 0 := by omega
    simpa [cutA] using h
  | some ad =>
    have e : cutA (some ad) c fr = if c = fr then some ad else some (ad.add fr) := by simp [cutA]
    rw [e]
    exact good_take (good_drop (b' := false) h fr (Nat.le_trans h1 h2)) (q - fr) (by rw [List.length_drop]; omega)
theorem cut_len (l : List Int) (fr q : Nat) (h1 : fr ≤ q) (h2 : q ≤ l.length) : ((l.drop fr).take (q - fr)).length = q - fr := by simp; omega
end Go.Proofs.YtelhkbanohhjhaaDoor.Tx
