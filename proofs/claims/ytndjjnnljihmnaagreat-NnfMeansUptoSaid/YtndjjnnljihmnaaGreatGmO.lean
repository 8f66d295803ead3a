/- A row's formula, opened into its readings. -/
import Derived.Test.YtndjjnnljihmnaaGreatFmC
import Derived.Test.YtndjjnnljihmnaaGreatRows
import Derived.ChangeShapes
import Derived.ChangeSlices
import Derived.ChangeArms
namespace Go.Proofs.YtndjjnnljihmnaaGreat
open Go.RowKit
open Go.ChangeShapes
set_option linter.unusedVariables false
set_option linter.unusedSimpArgs false
section
variable {H : Type} {enc : TypeId × Value → H} {w : World}
/-- All blocks that there are. -/
def All : Nat → Prop := fun _ => True
theorem opened_row {a : Addr} {n i m : Nat} {cs : List Value} (h : w.cells? 0 (a.add (i * n)) n = some cs) (hn : 0 < n) (ha : a.spot = none) : cs.length = n ∧ At w a.block (a.off + i * n) cs := by
  obtain ⟨_, hl, hc⟩ := World.cells?_some h
  refine ⟨hl, fun j u hu => ?_⟩
  have hj := (List.getElem?_eq_some_iff.1 hu).1
  have := hc j (by omega)
  rw [hu] at this
  obtain ⟨b, o, s⟩ := a
  simp only at ha
  subst ha
  unfold Addr.add at this
  by_cases h1 : i * n = 0 <;> by_cases h2 : j = 0 <;> simp only [h1, h2, if_true, if_false, Nat.add_zero] at this ⊢ <;> exact this
theorem opened_spot {a : Addr} {n : Nat} {cs : List Value} (h : w.cells? 0 (a.add (0 * n)) n = some cs) (hn : 0 < n) : a.spot = none := by
  obtain ⟨_, hl, hc⟩ := World.cells?_some h
  have h0 := hc 0 hn
  obtain ⟨c0, hc0⟩ : ∃ c0, cs[0]? = some c0 := ⟨cs[0]'(by omega), List.getElem?_eq_getElem (by omega)⟩
  rw [hc0] at h0
  have := World.cell?_spot h0
  rw [Nat.zero_mul] at this
  simpa [Addr.add] using this
theorem terms_of {b : Nat} : ∀ (es : List (DataW H × List MemPlace)) (o : Nat), (∀ i (h : i < es.length), ∃ cs t, RT All w t cs ∧ At w b (o + i * 3) cs ∧ Tm.wt t ≤ Rows.uptoBulk es[i].1) → ∃ ts : List Tm, ts.length = es.length ∧ RTs All w b o ts ∧ Tm.wts ts ≤ Rows.uptoBulkAll (es.map (·.1))
  | [], o, _ => ⟨[], rfl, trivial, Nat.le_refl _⟩
  | e :: es, o, h => by
    obtain ⟨cs, t, h1, h2, h3⟩ := h 0 (by simp)
    obtain ⟨ts, e1, e2, e3⟩ := terms_of es (o + 3) (fun i hi => by
      obtain ⟨cs, t, g1, g2, g3⟩ := h (i + 1) (by simp; omega)
      exact ⟨cs, t, g1, by rw [show o + 3 + i * 3 = o + (i + 1) * 3 by omega]; exact g2, g3⟩)
    refine ⟨t :: ts, by simp [e1], ⟨⟨cs, h1, by simpa using h2⟩, e2⟩, ?_⟩
    simp only [List.getElem_cons_zero] at h3
    simp only [Tm.wts, List.map_cons, Rows.uptoBulkAll]
    omega
theorem forms_of {b : Nat} : ∀ (es : List (DataW H × List MemPlace)) (o : Nat), (∀ i (h : i < es.length), ∃ cs t, RF All w t cs ∧ At w b (o + i * 9) cs ∧ Fm.wt t ≤ Rows.uptoBulk es[i].1) → ∃ ts : List Fm, ts.length = es.length ∧ RFs All w b o ts ∧ Fm.wts ts ≤ Rows.uptoBulkAll (es.map (·.1))
  | [], o, _ => ⟨[], rfl, trivial, Nat.le_refl _⟩
  | e :: es, o, h => by
    obtain ⟨cs, t, h1, h2, h3⟩ := h 0 (by simp)
    obtain ⟨ts, e1, e2, e3⟩ := forms_of es (o + 9) (fun i hi => by
      obtain ⟨cs, t, g1, g2, g3⟩ := h (i + 1) (by simp; omega)
      exact ⟨cs, t, g1, by rw [show o + 9 + i * 9 = o + (i + 1) * 9 by omega]; exact g2, g3⟩)
    refine ⟨t :: ts, by simp [e1], ⟨⟨cs, h1, by simpa using h2⟩, e2⟩, ?_⟩
    simp only [List.getElem_cons_zero] at h3
    simp only [Fm.wts, List.map_cons, Rows.uptoBulkAll]
    omega
theorem open_term : ∀ (fuel : Nat) (cs : List Value) (x : DataW H × List MemPlace), DataW.trod enc Tryz.prog w 0 (fun _ => true) true fuel 24 cs = some x → ∃ t, RT All w t cs ∧ Tm.wt t ≤ Rows.uptoBulk x.1 := by
  intro fuel
  induction fuel using Nat.strongRecOn with
  | ind fuel ih =>
    intro cs x h
    obtain ⟨xs, n, rfl, rfl, hcl, hxl, hx⟩ := DataW.trod_struct Tryz.underlying24 h
    rw [show Tryz.prog.cellsOf 24 = 3 from by kernel_rfl] at hcl
    obtain ⟨c0, c1, c2, rfl⟩ : ∃ c0 c1 c2, cs = [c0, c1, c2] := by
      rcases cs with _ | ⟨a, _ | ⟨b, _ | ⟨c, _ | ⟨d, r⟩⟩⟩⟩ <;> simp at hcl
      exact ⟨a, b, c, rfl⟩
    obtain ⟨x0, x1, x2, rfl⟩ : ∃ x0 x1 x2, xs = [x0, x1, x2] := by
      rcases xs with _ | ⟨a, _ | ⟨b, _ | ⟨c, _ | ⟨d, r⟩⟩⟩⟩ <;> simp at hxl
      exact ⟨a, b, c, rfl⟩
    have g0 := hx 0 _ rfl
    have g1 := hx 1 _ rfl
    have g2 := hx 2 _ rfl
    have k0 : Tryz.prog.cellsOf 3 = 1 := by kernel_rfl
    have k1 : Tryz.prog.cellsOf 9 = 1 := by kernel_rfl
    have k2 : Tryz.prog.cellsOf 22 = 1 := by kernel_rfl
    simp only [List.getElem_toArray, List.getElem_cons_zero, List.getElem_cons_succ, k0, k1, k2, List.drop_zero, List.take_succ_cons, List.take_zero, List.drop_succ_cons, List.getElem?_cons_zero, List.getElem?_cons_succ] at g0 g1 g2
    obtain ⟨v, e0, rfl, _⟩ := DataW.trod_int Tryz.underlying3 g0
    obtain ⟨f, e1, rfl, _⟩ := DataW.trod_string Tryz.underlying9 g1
    obtain rfl := (List.cons.inj e0).1
    obtain rfl := (List.cons.inj e1).1
    rcases DataW.trod_slice Tryz.underlying22 g2 with ⟨e2, rfl⟩ | ⟨a, len, cap, elems, rest, m, rfl, e2, rfl, _, hlc, hcm, hlen, hel, _⟩
    · obtain rfl := (List.cons.inj e2).1
      exact ⟨.mk v f [], RT.shut v f (ST.nil _ _ _), by simp [Tm.wt, Tm.wts, Rows.uptoBulk, Rows.uptoBulkAll]; omega⟩
    · obtain rfl := (List.cons.inj e2).1
      rw [show Tryz.prog.cellsOf 24 = 3 from by kernel_rfl] at hel
      have hstep : ∀ i (hi : i < elems.length), ∃ cs t, RT All w t cs ∧ At w a.block (a.off + i * 3) cs ∧ Tm.wt t ≤ Rows.uptoBulk elems[i].1 := by
        intro i hi
        have h1 := hel i (by omega)
        rw [List.getElem?_eq_getElem hi, Option.bind_eq_some_iff] at h1
        obtain ⟨cs, hc, ht⟩ := h1
        have h0 := hel 0 (by omega)
        rw [List.getElem?_eq_getElem (by omega), Option.bind_eq_some_iff] at h0
        obtain ⟨cs0, hc0, _⟩ := h0
        obtain ⟨t, r1, r2⟩ := ih m (by omega) _ _ ht
        exact ⟨cs, t, r1, (opened_row (m := 0) hc (by omega) (opened_spot hc0 (by omega))).2, r2⟩
      obtain ⟨ts, l1, l2, l3⟩ := terms_of elems a.off hstep
      refine ⟨.mk v f ts, ⟨some a, len, cap, rfl, by omega, hlc, by unfold maxLen at hcm; omega, fun hn => ?_⟩, ?_⟩
      · have h0 := hel 0 hn
        rw [List.getElem?_eq_getElem (by omega), Option.bind_eq_some_iff] at h0
        obtain ⟨cs0, hc0, _⟩ := h0
        have hs := opened_spot hc0 (by omega)
        refine ⟨a.block, a.off, ?_, trivial, l2⟩
        obtain ⟨b, o, s⟩ := a
        simp only at hs
        subst hs
        rfl
      · simp only [Tm.wt, List.map_cons, List.map_nil, Rows.uptoBulk, Rows.uptoBulkAll, Array.length_toList]
        show 1 + f.data.size + _ ≤ _
        omega
theorem open_form : ∀ (fuel : Nat) (cs : List Value) (x : DataW H × List MemPlace), DataW.trod enc Tryz.prog w 0 (fun _ => true) true fuel 27 cs = some x → ∃ t, RF All w t cs ∧ Fm.wt t ≤ Rows.uptoBulk x.1 := by
  intro fuel
  induction fuel using Nat.strongRecOn with
  | ind fuel ih =>
    intro cs x h
    obtain ⟨xs, n, rfl, rfl, hcl, hxl, hx⟩ := DataW.trod_struct Tryz.underlying27 h
    rw [show Tryz.prog.cellsOf 27 = 9 from by kernel_rfl] at hcl
    obtain ⟨c0, c1, c2, c3, c4, c5, c6, c7, c8, rfl⟩ : ∃ c0 c1 c2 c3 c4 c5 c6 c7 c8, cs = [c0, c1, c2, c3, c4, c5, c6, c7, c8] := by
      rcases cs with _ | ⟨a, _ | ⟨b, _ | ⟨c, _ | ⟨d, _ | ⟨e, _ | ⟨f, _ | ⟨g, _ | ⟨h', _ | ⟨i, _ | ⟨j, r⟩⟩⟩⟩⟩⟩⟩⟩⟩⟩ <;> simp at hcl
      exact ⟨a, b, c, d, e, f, g, h', i, rfl⟩
    obtain ⟨x0, x1, x2, x3, x4, rfl⟩ : ∃ x0 x1 x2 x3 x4, xs = [x0, x1, x2, x3, x4] := by
      rcases xs with _ | ⟨a, _ | ⟨b, _ | ⟨c, _ | ⟨d, _ | ⟨e, _ | ⟨f, r⟩⟩⟩⟩⟩⟩ <;> simp at hxl
      exact ⟨a, b, c, d, e, rfl⟩
    have g0 := hx 0 _ rfl
    have g1 := hx 1 _ rfl
    have g2 := hx 2 _ rfl
    have g3 := hx 3 _ rfl
    have g4 := hx 4 _ rfl
    have k0 : Tryz.prog.cellsOf 3 = 1 := by kernel_rfl
    have k1 : Tryz.prog.cellsOf 9 = 1 := by kernel_rfl
    have k2 : Tryz.prog.cellsOf 24 = 3 := by kernel_rfl
    have k3 : Tryz.prog.cellsOf 25 = 1 := by kernel_rfl
    simp only [List.getElem_toArray, List.getElem_cons_zero, List.getElem_cons_succ, k0, k1, k2, k3, List.drop_zero, List.take_succ_cons, List.take_zero, List.drop_succ_cons, List.getElem?_cons_zero, List.getElem?_cons_succ] at g0 g1 g2 g3 g4
    obtain ⟨k, e0, rfl, _⟩ := DataW.trod_int Tryz.underlying3 g0
    obtain ⟨nm, e1, rfl, _⟩ := DataW.trod_string Tryz.underlying9 g1
    obtain rfl := (List.cons.inj e0).1
    obtain rfl := (List.cons.inj e1).1
    obtain ⟨tl, rl, bl⟩ := open_term _ _ _ g2
    obtain ⟨tr, rr, br⟩ := open_term _ _ _ g3
    rcases DataW.trod_slice Tryz.underlying25 g4 with ⟨e2, rfl⟩ | ⟨a, len, cap, elems, rest, m, rfl, e2, rfl, _, hlc, hcm, hlen, hel, _⟩
    · obtain rfl := (List.cons.inj e2).1
      refine ⟨.mk k nm tl tr [], ⟨_, _, none, 0, 0, rfl, rl, rr, SF.nil _ _ _⟩, ?_⟩
      simp only [Fm.wt, Fm.wts, List.map_cons, List.map_nil, Rows.uptoBulk, Rows.uptoBulkAll, Array.length_toList]
      show 1 + nm.data.size + _ + _ ≤ _
      omega
    · obtain rfl := (List.cons.inj e2).1
      rw [show Tryz.prog.cellsOf 27 = 9 from by kernel_rfl] at hel
      have hstep : ∀ i (hi : i < elems.length), ∃ cs t, RF All w t cs ∧ At w a.block (a.off + i * 9) cs ∧ Fm.wt t ≤ Rows.uptoBulk elems[i].1 := by
        intro i hi
        have h1 := hel i (by omega)
        rw [List.getElem?_eq_getElem hi, Option.bind_eq_some_iff] at h1
        obtain ⟨cs, hc, ht⟩ := h1
        have h0 := hel 0 (by omega)
        rw [List.getElem?_eq_getElem (by omega), Option.bind_eq_some_iff] at h0
        obtain ⟨cs0, hc0, _⟩ := h0
        obtain ⟨t, r1, r2⟩ := ih m (by omega) _ _ ht
        exact ⟨cs, t, r1, (opened_row (m := 0) hc (by omega) (opened_spot hc0 (by omega))).2, r2⟩
      obtain ⟨ts, l1, l2, l3⟩ := forms_of elems a.off hstep
      refine ⟨.mk k nm tl tr ts, ⟨_, _, some a, len, cap, rfl, rl, rr, by omega, hlc, by unfold maxLen at hcm; omega, fun hn => ?_⟩, ?_⟩
      · have h0 := hel 0 hn
        rw [List.getElem?_eq_getElem (by omega), Option.bind_eq_some_iff] at h0
        obtain ⟨cs0, hc0, _⟩ := h0
        have hs := opened_spot hc0 (by omega)
        refine ⟨a.block, a.off, ?_, trivial, l2⟩
        obtain ⟨b, o, s⟩ := a
        simp only at hs
        subst hs
        rfl
      · simp only [Fm.wt, List.map_cons, List.map_nil, Rows.uptoBulk, Rows.uptoBulkAll, Array.length_toList]
        show 1 + nm.data.size + _ + _ ≤ _
        omega
end
/-- A row's formula: its parts, written out. -/
theorem open_formula {H : Type} {enc : TypeId × Value → H} {w : World} {v : Value} {d : DataW H} {p : List MemPlace} (hv : ∃ cs : List Value, v = .agg cs.toArray ∧ v.cells.toList = cs) (h : DataW.Trod enc Tryz.prog w 0 (fun _ => true) true 27 v d p) : ∃ k n vl fl al vr fr ar ts Al cl Ar cr A c, v = .agg #[.int .i64 k, .string n, .int .i64 vl, .string fl, .slice Al al.length cl, .int .i64 vr, .string fr, .slice Ar ar.length cr, .slice A ts.length c] ∧ ST All w Al al.length cl al ∧ ST All w Ar ar.length cr ar ∧ SF All w A ts.length c ts ∧ (Fm.mk k n (.mk vl fl al) (.mk vr fr ar) ts).wt ≤ Rows.uptoBulk d := by
  obtain ⟨cs, rfl, hcs⟩ := hv
  obtain ⟨fuel, hf⟩ := h
  rw [hcs] at hf
  obtain ⟨⟨k, n, ⟨vl, fl, al⟩, ⟨vr, fr, ar⟩, ts⟩, h1, h2⟩ := open_form fuel _ _ hf
  obtain ⟨Al, cl, Ar, cr, A, c, rfl, hl, hr, hs⟩ := h1.open
  exact ⟨k, n, vl, fl, al, vr, fr, ar, ts, Al, cl, Ar, cr, A, c, rfl, hl, hr, hs, h2⟩
end Go.Proofs.YtndjjnnljihmnaaGreat
