/- For all limits, every script of calls and every kind the law QuotaPlays returns true: what is used, and what is refused, behind any calls on an account is what the document's answer says. No condition. -/
import Derived.Test.YthmllfejnmbfgaaRows
import Derived.Test.YthmllfejnmbfgaaT
import Derived.SizedLaws
import Derived.WalkKit
import Derived.ProofKit
import Derived.OpenShut
import Derived.ShutString
import Derived.ChangeOld
import Derived.Below
namespace Go.Proofs.Ythmllfejnmbfgaa.quotaPlays
open Go.ChangeShapes Go.WideShapes Go.ChangeAt Go.RowKit Go.Deep
open Go.ChangeMaps (open_string shut_string)
set_option linter.unusedVariables false

/-- A row's slice of whole numbers is no longer than its weight allows. -/
theorem sized_ints {H : Type} {enc : TypeId × Value → H} {P : Program} {W : World} {base : Nat} {spare : Nat → Bool} {held : Bool} {t e : TypeId} {k : IntKind} {a : Option Addr} {len cap : Nat} {d : DataW H} {ps : List MemPlace} {ts : List TypeId} {ds : List (DataW H)} {j : Nat}
    (hsz : (DataW.weightsEach P ts ds).all (· ≤ reachBytes) = true) (ht : ts[j]? = some t) (hd : ds[j]? = some d) (hu : P.underlying t = some (.slice e)) (he : P.underlying e = some (.int k)) (hc : P.cellsOf e = 1) {B : Nat} (hB : P.bytesOf e = B)
    (h : DataW.Trod enc P W base spare held t (.slice a len cap) d ps) : len * B ≤ 140737488351232 := by
  obtain ⟨fuel, hf⟩ := h
  rcases open_ints hu he hc hf with ⟨hcs, _⟩ | ⟨x, l, c, zs, hcs, _, hl, _, hz, hx, _, _⟩
  · simp [Value.cells] at hcs
    obtain ⟨rfl, rfl, rfl⟩ := hcs
    simp
  · simp [Value.cells] at hcs
    obtain ⟨rfl, rfl, rfl⟩ := hcs
    obtain ⟨hx, _⟩ := Prod.mk.inj hx
    subst hx
    have z := sized_slice hsz ht hd hu
    rw [hB] at z
    have hl2 : len ≤ zs.length := by
      rw [hz]
      split
      · exact hl
      · exact Nat.le_refl _
    have h1 : (lits (H := H) k (zs.take len)).length + (lits (H := H) k (zs.drop len)).length = zs.length := by
      simp [lits]
      omega
    rw [h1] at z
    exact Nat.le_trans (Nat.mul_le_mul_right _ hl2) z

theorem own : ownKnob Try.prog.godebug = none := by kernel_rfl
theorem laidOut : laidOutB Try.prog = true := by kernel_rfl

/-- A slice of integers that came in. -/
def IsRow (k : IntKind) (w : World) (a : Option Addr) (len cap : Nat) (zs : List Int) : Prop :=
  (a = none ∧ len = 0 ∧ cap = 0 ∧ zs = []) ∨
  ∃ x, a = some x ∧ len ≤ cap ∧ cap ≤ maxLen ∧ zs.length = cap ∧ (∀ i, i < zs.length → w.cell? (x.add i) = some (.int k (zs.getD i 0))) ∧ ∀ n ∈ zs, (Lit.int k n).wf = true

theorem take_getD (zs : List Int) (n j : Nat) (h : j < n) : (zs.take n).getD j 0 = zs.getD j 0 := by simp [List.getD_eq_getElem?_getD, List.getElem?_take, h]

theorem walk (a0 : Option Addr) (len0 cap0 : Nat) (z0 : List Int) (so : Option Addr) (n sc : Nat) (kind : Int) (w : World) (w0 : IsRow .i64 w a0 len0 cap0 z0) (hs : IsScript w so n) (hn : n ≤ 140737488351232) (hl : len0 * 8 ≤ 140737488351232) :
    Calls Try.prog 6 #[.slice a0 len0 cap0, .slice so n sc, .int .i64 kind] w fun e w' => e = .returned (.bool true) ∧ Below w.heap.size w w' := by
  by_cases hb : len0 < 1 ∨ 16 < len0
  · exact plays_bad a0 so cap0 len0 n sc kind w hb (by omega)
  · rcases w0 with ⟨rfl, rfl, rfl, rfl⟩ | ⟨x, rfl, h1, h2, h3, h4, h5⟩
    · omega
    · obtain ⟨b, off, rfl, hc⟩ := ints_at h4 (by omega)
      have hl2 : (z0.take len0).length = len0 := by simp; omega
      have hc2 : ∀ j, j < (z0.take len0).length → w.cell? ⟨b, off + j, none⟩ = some (.int .i64 ((z0.take len0).getD j 0)) := fun j hj => by
        rw [take_getD _ _ _ (by omega)]; exact hc j (by omega)
      have hmx : ∀ j, j < (z0.take len0).length → (z0.take len0).getD j 0 ≤ 9223372036854775807 := fun j hj => by
        rw [take_getD _ _ _ (by omega)]
        have hj2 : j < z0.length := by omega
        have := bounds_i64 (h5 z0[j] (List.getElem_mem hj2))
        simp only [List.getD_eq_getElem?_getD, List.getElem?_eq_getElem hj2, Option.getD_some]
        exact this.2
      obtain ⟨os, rfl, ho⟩ := hs
      generalize z0.take len0 = zs at *
      subst hl2
      by_cases hneg : Lib.minOf (zs.take zs.length) < 0
      · exact plays_neg b off cap0 zs so os.length sc kind w (by omega) (by omega) hc2 hneg (minOf_neg hneg)
      · exact plays_walk b off cap0 zs so sc os kind w (by omega) (by omega) (World.block_lt_of_cell? w _ (hc2 0 (by omega))) hc2 (minOf_pos hneg) hmx hn ho (by omega)

theorem script_of {H : Type} {enc : TypeId × Value → H} {W : World} {base fuel : Nat} {held : Bool} {v : Value} {x : DataW H × List MemPlace} (hv : ∃ a n c, v = .slice a n c)
    (h : DataW.trod enc Try.prog W base (fun _ => true) held fuel 35 [v] = some x) : ∃ a n c, v = .slice a n c ∧ IsScript W a n ∧ (n = 0 ∨ ∃ es sp, x.1 = .slice es sp ∧ es.length = n) := by
  rcases open_slice_fields Try.underlying35 Try.underlying39 (by kernel_rfl) (by kernel_rfl) h with ⟨hcs, _⟩ | ⟨a, len, cap, m, D, Pl, hcs, hb, hl, hm, hmm, hx, hf⟩
  · simp at hcs
    exact ⟨none, 0, 0, hcs, ⟨[], rfl, fun h => by simp at h⟩, .inl rfl⟩
  · simp at hcs
    simp only [if_true] at hmm
    refine ⟨some a, len, cap, hcs, ?_, .inr ⟨_, _, by rw [hx], by simp⟩⟩
    by_cases h0 : len = 0
    · subst h0; exact ⟨[], rfl, fun h => by simp at h⟩
    have key : ∀ i, i < len → ∃ o : OpX, W.cell? (a.add (i * 4 + 0)) = some (.int .i64 o.kind) ∧ W.cell? (a.add (i * 4 + 1)) = some (.int .i64 o.k) ∧ W.cell? (a.add (i * 4 + 2)) = some (.int .i64 o.n) ∧
        W.cell? (a.add (i * 4 + 3)) = some (.slice o.la o.ls.length o.lc) ∧ o.ls.length ≤ 9223372036854775807 ∧ ICells W o.la o.ls ∧ o.n ≤ 9223372036854775807 := by
      intro i hi
      obtain ⟨ys, n, _, _, _, hj⟩ := hf i (by omega)
      obtain ⟨v0, y0, c0, _, t0⟩ := hj 0 _ rfl
      obtain ⟨v1, y1, c1, _, t1⟩ := hj 1 _ rfl
      obtain ⟨v2, y2, c2, _, t2⟩ := hj 2 _ rfl
      obtain ⟨v3, y3, c3, _, t3⟩ := hj 3 _ rfl
      obtain ⟨n0, e0, _, _⟩ := DataW.trod_int Try.underlying3 t0
      obtain ⟨n1, e1, _, _⟩ := DataW.trod_int Try.underlying3 t1
      obtain ⟨n2, e2, _, g2⟩ := DataW.trod_int Try.underlying3 t2
      simp only [List.cons.injEq, and_true] at e0 e1 e2
      subst e0 e1 e2
      rcases open_ints Try.underlying26 Try.underlying3 (by kernel_rfl) t3 with ⟨q, _⟩ | ⟨x, l, c, zs, q, _, q2, q3, q4, _, q5, _⟩
      · simp only [List.cons.injEq, and_true] at q
        subst q
        exact ⟨⟨n0, n1, n2, none, 0, []⟩, c0, c1, c2, c3, by simp, fun hp => by simp at hp, (bounds_i64 g2).2⟩
      · simp only [List.cons.injEq, and_true] at q
        subst q
        simp only [if_true] at q4
        have hlt : (zs.take l).length = l := by simp; omega
        refine ⟨⟨n0, n1, n2, some x, c, zs.take l⟩, c0, c1, c2, by rw [hlt]; exact c3, by rw [hlt]; unfold maxLen at q3; omega, fun hp => ?_, (bounds_i64 g2).2⟩
        have hp2 : 0 < l := by rw [hlt] at hp; exact hp
        obtain ⟨b, off, rfl, hc⟩ := ints_at q5 (by omega)
        refine ⟨b, off, rfl, World.block_lt_of_cell? W _ (hc 0 (by omega)), fun j hj => ?_⟩
        have hj2 : j < l := by rw [hlt] at hj; exact hj
        show W.cell? ⟨b, off + j, none⟩ = some (.int .i64 ((zs.take l).getD j 0))
        rw [take_getD _ _ _ hj2]; exact hc j (by omega)
    obtain ⟨f, hf⟩ := choose_lt key
    obtain ⟨b, off, rfl⟩ := addr_of_cell (hf 0 (by omega)).1
    refine ⟨(List.range len).map f, by simp, fun _ => ⟨b, off, rfl, World.block_lt_of_cell? W _ (hf 0 (by omega)).1, fun j hj => ?_⟩⟩
    simp only [List.length_map, List.length_range] at hj
    obtain ⟨c0, c1, c2, c3, k1, k2, k3⟩ := hf j hj
    rw [add_plain] at c0 c1 c2 c3
    simp only [List.getElem_map, List.getElem_range]
    exact ⟨c0, c1, c2, c3, k1, k2, k3⟩

set_option maxRecDepth 100000 in
theorem lifted (os : Os) (started : os.Started) (H : Type) (enc : TypeId × Value → H) :
    ReturnsInHanded {} Try.checked os 6 .any (Rows.quotaPlaysSpec.pre6 enc Try.prog Try.f6 Rows.quotaPlaysRow.domain false) (Rows.quotaPlaysSpec.post enc Try.prog Try.f6 false true false false) := by
  refine returnsInHanded_of_change_sized (C := Try.checked) own started (by kernel_rfl) Try.func6
    (ChangeSpec.witness6 (enc := enc) (C := Try.checked) false ⟨#[], #[.slice none 0 0, .slice none 0 0, .int .i64 0], []⟩ 8 (by kernel_rfl) (by kernel_rfl) (by kernel_rfl) (by kernel_rfl)) ?_
  intro W base args ds gs before hval0 hW hcnd hsz0 _
  have hsz : (DataW.weightsEach Try.prog (Try.f6.params.toList ++ Rows.quotaPlaysSpec.plain.varTypes Try.prog) (ds ++ gs)).all (· ≤ reachBytes) = true := hsz0
  have hval : ∀ (j : Nat) t v, Try.f6.params[j]? = some t → args[j]? = some v → Value.okWide Try.prog W .any base t v := hval0
  have hW' := hW
  obtain ⟨p, q, hA0, hV, rfl, hfz, hnd⟩ := hW
  have hA : DataW.TrodAll enc Try.prog W 0 (fun _ => true) true Try.f6.params.toList args.toList ds p := hA0
  rw [Try.params6] at hA hval hsz
  obtain ⟨v0, vs0, d0, ds0, p0, q0, hargs, rfl, rfl, h0, r0⟩ := trodAll_cons hA
  obtain ⟨v1, vs1, d1, ds1, p1, q1, rfl, rfl, rfl, h1, r1⟩ := trodAll_cons r0
  obtain ⟨v2, vs2, d2, ds2, p2, q2, rfl, rfl, rfl, h2, r2⟩ := trodAll_cons r1
  obtain ⟨rfl, rfl, rfl⟩ := trodAll_nil r2
  obtain rfl : args = #[v0, v1, v2] := by cases args; simp_all
  obtain ⟨rfl, rfl⟩ := trodVars_none hV
  obtain ⟨a0, len0, cap0, rfl⟩ := okWide_slice Try.underlying26 (hval 0 26 v0 rfl rfl)
  have hv1 := okWide_slice Try.underlying35 (hval 1 35 v1 rfl rfl)
  obtain ⟨a2, rfl, rfl, rfl, w2⟩ := open_int Try.underlying3 (hval 2 3 v2 rfl rfl) h2
  have k0 := h0
  have lt0 : ∀ x ∈ p0, x.block < W.heap.size := by obtain ⟨m, hm⟩ := k0; exact DataW.trod_lt m _ _ _ hm
  have k1 := h1
  have lt1 : ∀ x ∈ p1, x.block < W.heap.size := by obtain ⟨m, hm⟩ := k1; exact DataW.trod_lt m _ _ _ hm
  obtain ⟨z0, w0⟩ : ∃ zs, IsRow .i64 W a0 len0 cap0 zs := by
    obtain ⟨fuel, hf⟩ := h0
    rcases open_ints Try.underlying26 Try.underlying3 (by kernel_rfl) hf with ⟨hcs, _⟩ | ⟨x, l, c, zs, hcs, _, hl, hm, hz, _, hcell, hwz⟩
    · simp [Value.cells] at hcs
      obtain ⟨rfl, rfl, rfl⟩ := hcs
      exact ⟨[], .inl ⟨rfl, rfl, rfl, rfl⟩⟩
    · simp [Value.cells] at hcs
      obtain ⟨rfl, rfl, rfl⟩ := hcs
      exact ⟨zs, .inr ⟨_, rfl, hl, hm, by simpa using hz, hcell, hwz⟩⟩
  have y0 : len0 * 8 ≤ 140737488351232 := sized_ints hsz (j := 0) (t := 26) rfl rfl Try.underlying26 Try.underlying3 (by kernel_rfl) (by kernel_rfl) k0
  obtain ⟨a1, n1, c1, rfl, hscript, hn1⟩ : ∃ a n c, v1 = .slice a n c ∧ IsScript W a n ∧ n ≤ 140737488351232 := by
    obtain ⟨fuel, hf⟩ := h1
    obtain ⟨va, vn, vc, rfl⟩ := hv1
    obtain ⟨a, n, c, e, hs, hn⟩ := script_of ⟨va, vn, vc, rfl⟩ (by simpa [Value.cells] using hf)
    refine ⟨a, n, c, e, hs, ?_⟩
    rcases hn with rfl | ⟨es, sp, hd, hl⟩
    · omega
    · have z := sized_slice hsz (j := 1) (t := 35) (elems := es) (spare := sp) rfl (by simp at hd ⊢; exact hd) Try.underlying35
      have hby : Try.prog.bytesOf 39 = 48 := by kernel_rfl
      rw [hby] at z
      unfold reachBytes at z
      omega
  clear hA0 hval0 hsz0 hsz
  refine (walk a0 len0 cap0 z0 a1 n1 c1 a2 W w0 hscript hn1 y0).mono fun e W' ⟨he, bel⟩ => ?_
  subst he
  exact ⟨_, rfl, _, _, _, [], _, [], hW', trodAll_mk1 (shut_bool Try.underlying4 _), (trodAll_cons_mk (Below.trod laidOut (by kernel_rfl) (of_decide_eq_true (by kernel_rfl)) k0 bel lt0) (trodAll_cons_mk (Below.trod laidOut (by kernel_rfl) (of_decide_eq_true (by kernel_rfl)) k1 bel lt1) (trodAll_cons_mk (shut_int Try.underlying3 w2) trodAll_mk0))), rfl, bel.frame _, fun h => by cases h⟩

theorem over : Rows.quotaPlaysRow.holds Try.pinned (OpenSpec.ofChange Rows.quotaPlaysSpec) :=
  OpenClaim.holds_of_wide 6 Try.f6 rfl rfl rfl rfl rfl rfl rfl ⟨rfl, rfl, rfl, rfl, rfl⟩ rfl rfl rfl rfl rfl (by kernel_rfl) Try.func6 (by kernel_rfl)
    (of_decide_eq_true (by kernel_rfl)) (by unfold Func.isWrapper; first | (rw [if_pos (by decide +kernel)]; kernel_rfl) | (rw [if_neg (by decide +kernel)]; exact ⟨rfl, rfl⟩))
    (fun os started H enc _ => lifted os started H enc)

/-- The statement. -/
theorem proved : Rows.QuotaPlaysSaid := over
#print axioms proved
end Go.Proofs.Ythmllfejnmbfgaa.quotaPlays
