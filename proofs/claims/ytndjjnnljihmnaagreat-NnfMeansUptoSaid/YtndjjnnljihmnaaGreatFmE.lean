/- Truth's sign, predicates, atoms; the package's and the reference's. -/
import Derived.Test.YtndjjnnljihmnaaGreatFmD
import Derived.Laws.DeepStrings4
namespace Go.Proofs.YtndjjnnljihmnaaGreat
open Go.RowKit Go.Proofs.YtndjjnnljihmnaaGreat.Lx
set_option linter.unusedVariables false
set_option linter.unusedSimpArgs false
def truS : ByteArray := ⟨#[36, 116, 114, 117, 101]⟩
def truTm : Tm := .mk 0 truS []
def atP (f : ByteArray) : Bool := Lib.hasPrefix f.data.toList [64]
def cutP (f : ByteArray) : ByteArray := ⟨(Lib.trimPrefix f.data.toList [64]).toArray⟩
theorem cut_size (f : ByteArray) : (cutP f).size ≤ f.size := by
  unfold cutP Lib.trimPrefix
  show List.length _ ≤ f.size
  have : f.data.toList.length = f.size := by simp
  split <;> simp [List.length_drop] <;> omega
theorem at_pos (f : ByteArray) (h : atP f = true) : 0 < f.size := by
  rcases Nat.eq_zero_or_pos f.size with h0 | h0
  · obtain rfl := empty_of f h0
    exact absurd h (by decide)
  · exact h0
theorem at_first (f : ByteArray) (h : 0 < f.size) : atP f = (f[0] == 64) := by
  have hb := bs_len f
  have h1 := bs_at f 0 h
  unfold atP Lib.hasPrefix
  change List.isPrefixOf [64] (bs f) = _
  cases hl : bs f with
  | nil => rw [hl] at hb; simp at hb; omega
  | cons x r =>
    have : f[0] = x := by simp only [hl, List.getElem_cons_zero] at h1; exact h1.symm
    rw [this]
    simp [List.isPrefixOf]
    rw [Bool.eq_iff_iff]; simp; exact eq_comm
theorem at_cut (f : ByteArray) (h : atP f = true) : cutP f = f.extract 1 f.size := by
  have h0 := at_pos f h
  unfold cutP
  rw [Lib.trimPrefix, if_pos (show Lib.hasPrefix f.data.toList [64] = true from h)]
  show (⟨((bs f).drop 1).toArray⟩ : ByteArray) = _
  rw [← bs_drop]
def Tm.none : Tm → Bool
  | .mk v f ts => f.toList.isEmpty && ((v == 0) && (ts.length == 0))
/-- The term of a predicate, without its sign. -/
def Tm.cut : Tm → Tm
  | .mk v f ts => .mk v (cutP f) ts
def Tm.at : Tm → Bool
  | .mk v f ts => atP f
def Tm.fn : Tm → ByteArray
  | .mk v f ts => f
/-- Is an atom right? -/
def atomOK (l r : Tm) : Bool := if l.at then nameOK l.cut.fn && (l.cut.inner && r.same truTm) else l.inner && r.inner
theorem truth_any (w : World) : Calls Tryz.prog 84 #[] w fun e w' => e = .returned (.agg #[.int .i64 0, .string truS, .slice none 0 0]) ∧ Below w.heap.size w w' := by
  go_enter Tryz.func84, Tryz.ntmps84
  go_wp2
  refine bodyPost_ret (v := .agg #[.int .i64 0, .string truS, .slice none 0 0]) (by simp [results, Tryz.results84, go_sem, truS]) rfl ⟨rfl, by (repeat' (first | (with_reducible assumption) | (with_reducible exact Below.refl _ _) | (with_reducible refine Below.setCell ?_ ?_ _) | (with_reducible refine Below.alloc ?_ ?_ _) | (with_reducible apply Below.drew) | omega | (simp; done) | (simp; omega)))⟩
theorem rtrue_any (w : World) : Calls Tryz.prog 47 #[] w fun e w' => e = .returned (.agg #[.int .i64 0, .string truS, .slice none 0 0]) ∧ Below w.heap.size w w' := by
  go_enter Tryz.func47, Tryz.ntmps47
  go_wp2
  refine bodyPost_ret (v := .agg #[.int .i64 0, .string truS, .slice none 0 0]) (by simp [results, Tryz.results47, go_sem, truS]) rfl ⟨rfl, by (repeat' (first | (with_reducible assumption) | (with_reducible exact Below.refl _ _) | (with_reducible refine Below.setCell ?_ ?_ _) | (with_reducible refine Below.alloc ?_ ?_ _) | (with_reducible apply Below.drew) | omega | (simp; done) | (simp; omega)))⟩
theorem rnone_any (v : Int) (f : ByteArray) (ts : List Tm) (w : World) (A : Option Addr) (c : Nat) (hl : ts.length ≤ 9223372036854775807) : Calls Tryz.prog 55 #[.agg #[.int .i64 v, .string f, .slice A ts.length c]] w fun e w' => e = .returned (.bool (Tm.mk v f ts).none) ∧ Below w.heap.size w w' := by
  have hq2 : ((ts.length : Int) == 0) = (ts.length == 0) := by rw [Bool.eq_iff_iff]; simp
  have HB := Lib.hid ((Below.refl _ w).alloc (Nat.le_refl _) (.cells #[.int .i64 v, .string f, .slice A ts.length c] 24))
  have HV : Hid ((Tm.mk v f ts).none = (f.toList.isEmpty && ((v == 0) && (ts.length == 0)))) := Lib.hid (by rw [Tm.none])
  generalize hnn : (Tm.mk v f ts).none = nn at *
  clear hnn
  cases q1 : f.toList.isEmpty <;> cases q2 : (v == 0) <;> cases q3 : (ts.length == 0)
  all_goals
    have hv : Hid (nn = _) := Lib.hid (by rw [HV.out, q1, q2, q3])
    try simp only [Bool.and_true, Bool.and_false, Bool.true_and, Bool.false_and] at hv
    rw [q3] at hq2
    go_enter Tryz.func55, Tryz.ntmps55
    go_wp2_with fail
    go_ret
    exact ⟨ret_bool (by rw [hv.out]), HB.out⟩
theorem predicate_any (k : Int) (n : ByteArray) (vl : Int) (fl : ByteArray) (al : List Tm) (vr : Int) (fr : ByteArray) (ar : List Tm) (ts : List Fm) (w : World) (Al : Option Addr) (cl : Nat) (Ar : Option Addr) (cr : Nat) (A : Option Addr) (c : Nat) :
    Calls Tryz.prog 81 #[.agg #[.int .i64 k, .string n, .int .i64 vl, .string fl, .slice Al al.length cl, .int .i64 vr, .string fr, .slice Ar ar.length cr, .slice A ts.length c]] w fun e w' => e = .returned (.tuple #[.agg #[.int .i64 vl, .string (cutP fl), .slice Al al.length cl], .bool (atP fl)]) ∧ Below w.heap.size w w' := by
  have HC := Lib.hid (fun w' => Tryz.strings_CutPrefix fl ⟨#[64]⟩ w')
  go_enter Tryz.func81, Tryz.ntmps81
  go_wp2_with fail
  refine (HC.out _).mono ?_
  rintro e w2 ⟨rfl, rfl⟩
  go_wp2_with fail
  refine bodyPost_ret (v := .tuple #[.agg #[.int .i64 vl, .string (cutP fl), .slice Al al.length cl], .bool (atP fl)]) (by simp [results, Tryz.results81, go_sem]; exact ⟨rfl, rfl⟩) rfl ⟨rfl, by (repeat' (first | (with_reducible assumption) | (with_reducible exact Below.refl _ _) | (with_reducible refine Below.setCell ?_ ?_ _) | (with_reducible refine Below.alloc ?_ ?_ _) | (with_reducible apply Below.drew) | omega | (simp; done) | (simp; omega)))⟩
mutual
theorem Tm.size_wt : ∀ t : Tm, t.size ≤ t.wt
  | .mk v f ts => by
    have := Tm.sizes_wts ts
    rw [Tm.size, Tm.wt]; omega
theorem Tm.sizes_wts : ∀ ts : List Tm, Tm.sizes ts ≤ Tm.wts ts
  | [] => Nat.le_refl _
  | t :: r => by
    have := Tm.size_wt t
    have := Tm.sizes_wts r
    rw [Tm.sizes, Tm.wts]; omega
end
theorem bel_go {W w1 w2 : World} (h : Below W.heap.size W w1) (hb : Below w1.heap.size w1 w2) : Below W.heap.size W w2 := h.trans (hb.mono h.size)
theorem keepc {W w' : World} {b o : Nat} {u : Value} (hb : Below W.heap.size W w') (z : W.cell? ⟨b, o, none⟩ = some u) : w'.cell? ⟨b, o, none⟩ = some u := (hb.cell (p := ⟨b, o, none⟩) (World.block_lt_of_cell? W _ z)).trans z
theorem bel_drew1 (w : World) : Below w.heap.size w w.drew := ⟨rfl, rfl, rfl, Nat.le_refl _, fun _ _ => rfl⟩
set_option maxRecDepth 100000 in
set_option maxHeartbeats 3200000 in
theorem atom_any (k : Int) (n : ByteArray) (vl : Int) (fl : ByteArray) (al : List Tm) (vr : Int) (fr : ByteArray) (ar : List Tm) (ts : List Fm) (S : Nat → Prop) (w : World) (Al : Option Addr) (cl : Nat) (Ar : Option Addr) (cr : Nat) (A : Option Addr) (c : Nat) (hl : (Tm.mk vl fl al).wt ≤ 1152921504606846976) (hr : (Tm.mk vr fr ar).wt ≤ 1152921504606846976) (h1 : ST S w Al al.length cl al) (h2 : ST S w Ar ar.length cr ar) :
    Calls Tryz.prog 60 #[.agg #[.int .i64 k, .string n, .int .i64 vl, .string fl, .slice Al al.length cl, .int .i64 vr, .string fr, .slice Ar ar.length cr, .slice A ts.length c]] w fun e w' => e = .returned (.bool (atomOK (.mk vl fl al) (.mk vr fr ar))) ∧ Below w.heap.size w w' := by
  have hcs := cut_size fl
  have hfl : fl.size ≤ 1152921504606846976 := by rw [Tm.wt] at hl; omega
  have hcw : (Tm.mk vl (cutP fl) al).wt ≤ 1152921504606846976 := by rw [Tm.wt] at hl ⊢; omega
  have HNM := Lib.hid (fun w' => isName_any (cutP fl) w' (by omega))
  have HIL := Lib.hid (fun w' (hb : Below w.heap.size w w') => inner0 _ vl fl al S w' Al cl hl (Nat.le_refl _) (h1.stay (Stay.below hb)))
  have HIR := Lib.hid (fun w' (hb : Below w.heap.size w w') => inner0 _ vr fr ar S w' Ar cr hr (Nat.le_refl _) (h2.stay (Stay.below hb)))
  have HIC := Lib.hid (fun w' (hb : Below w.heap.size w w') => inner0 _ vl (cutP fl) al S w' Al cl hcw (Nat.le_refl _) (h1.stay (Stay.below hb)))
  have HTR := Lib.hid (fun w' => truth_any w')
  have HSM := Lib.hid (fun w' (hb : Below w.heap.size w w') => tsame _ vr fr ar 0 truS [] S (fun _ => False) w' Ar cr none 0 (Nat.le_refl _) (h2.stay (Stay.below hb)) (ST.nil _ _ _))
  have hv : atomOK (.mk vl fl al) (.mk vr fr ar) = if atP fl then isNameB (bs (cutP fl)) && ((Tm.mk vl (cutP fl) al).inner && (Tm.mk vr fr ar).same (.mk 0 truS [])) else (Tm.mk vl fl al).inner && (Tm.mk vr fr ar).inner := rfl
  have HV := Lib.hid hv
  generalize atomOK (.mk vl fl al) (.mk vr fr ar) = res at *
  clear hv h1 h2 hl hr hcw hcs
  have HQ0 := Lib.hid (Below.refl (w.heap.size + 1) (w.alloc (.cells #[.int .i64 k, .string n, .int .i64 vl, .string fl, .slice Al al.length cl, .int .i64 vr, .string fr, .slice Ar ar.length cr, .slice A ts.length c] 27)))
  have HP := Lib.hid (fun w' => predicate_any k n vl fl al vr fr ar ts w' Al cl Ar cr A c)
  clear hfl
  go_enter Tryz.func60, Tryz.ntmps60
  go_wp2_with fail
  refine (HP.out _).mono ?_
  rintro e w2 ⟨rfl, hb2⟩
  have HQ2 := Lib.hid (bel_step HQ0.out hb2)
  clear hb2 HQ0
  have z2 := box_cell HQ2.out 2 _ rfl
  have z3 := box_cell HQ2.out 3 _ rfl
  have z4 := box_cell HQ2.out 4 _ rfl
  have z5 := box_cell HQ2.out 5 _ rfl
  have z6 := box_cell HQ2.out 6 _ rfl
  have z7 := box_cell HQ2.out 7 _ rfl
  clear z2 z3 z4 z5 z6 z7
  go_upto_region 2 with (fail)
  have HW := Lib.hid (bel_box (HQ2.out.alloc (bel_size HQ2.out) (.cells #[.int .i64 vl, .string (cutP fl), .slice Al al.length cl] 24)))
  have HBT := Lib.hid (Blk.new w2 24 [.int .i64 vl, .string (cutP fl), .slice Al al.length cl])
  have HWB := Lib.hid (HQ2.out.alloc (bel_size HQ2.out) (.cells #[.int .i64 vl, .string (cutP fl), .slice Al al.length cl] 24))
  simp only [List.toArray] at HBT
  generalize hW : w2.alloc (.cells #[.int .i64 vl, .string (cutP fl), .slice Al al.length cl] 24) = W at *
  generalize hbt : w2.heap.size = bt at *
  have yt0 := HBT.out.cell 0
  have yt1 := HBT.out.cell 1
  have yt2 := HBT.out.cell 2
  have yr2 := box_cell HWB.out 2 _ rfl
  have yr3 := box_cell HWB.out 3 _ rfl
  have yr4 := box_cell HWB.out 4 _ rfl
  have yr5 := box_cell HWB.out 5 _ rfl
  have yr6 := box_cell HWB.out 6 _ rfl
  have yr7 := box_cell HWB.out 7 _ rfl
  simp only [List.getElem?_cons_zero, List.getElem?_cons_succ] at yt0 yt1 yt2
  clear hW hbt HBT HQ2
  cases hat : atP fl
  · have HAT := Lib.hid hat
    clear yt0 yt1 yt2 hat
    go_wp2_with fail
    refine (HIL.out _ (bel_box HWB.out)).mono ?_
    rintro e w3 ⟨rfl, hb3⟩
    have HQ3 := Lib.hid (bel_step HWB.out hb3)
    clear hb3 yr2 yr3 yr4 yr5 yr6 yr7
    have z5 := box_cell HQ3.out 5 _ rfl
    have z6 := box_cell HQ3.out 6 _ rfl
    have z7 := box_cell HQ3.out 7 _ rfl
    cases hq : (Tm.mk vl fl al).inner
    all_goals have HQI := Lib.hid hq; clear hq
    · go_wp2_with fail
      go_ret
      exact ⟨ret_bool (by simp [HV.out, HAT.out, HQI.out]), bel_box HQ3.out⟩
    · go_wp2_with fail
      refine (HIR.out _ (bel_box HQ3.out)).mono ?_
      rintro e w4 ⟨rfl, hb4⟩
      have HQ4 := Lib.hid (bel_step HQ3.out hb4)
      clear hb4
      go_wp2_with fail
      go_ret
      exact ⟨ret_bool (by simp [HV.out, HAT.out, HQI.out]), bel_box HQ4.out⟩
  · have HAT := Lib.hid hat
    clear yr2 yr3 yr4 hat
    go_wp2_with fail
    have Zt0 := Lib.hid yt0
    have Zt1 := Lib.hid yt1
    have Zt2 := Lib.hid yt2
    have Zr5 := Lib.hid yr5
    have Zr6 := Lib.hid yr6
    have Zr7 := Lib.hid yr7
    generalize isNameB (bs (cutP fl)) = ba at *
    generalize (Tm.mk vl (cutP fl) al).inner = bb at *
    generalize (Tm.mk vr fr ar).same (.mk 0 truS []) = bc at *
    have HQ0 := Lib.hid (bel_drew1 W)
    cases ba
    case' false =>
      (first | (go_region_with (first | (go_at_call_of 82 (Value.string (cutP fl)); refine (HNM.out _).mono ?_; rintro e w9 ⟨rfl, hb9⟩; have HQ1 := Lib.hid (bel_go (by first | exact HQ1.out | exact HQ0.out) hb9); clear hb9; have yt0 := keepc HQ1.out Zt0.out; have yt1 := keepc HQ1.out Zt1.out; have yt2 := keepc HQ1.out Zt2.out; have yr5 := keepc HQ1.out Zr5.out; have yr6 := keepc HQ1.out Zr6.out; have yr7 := keepc HQ1.out Zr7.out) | (go_at_call_of 83 (Value.agg #[.int .i64 vl, .string (cutP fl), .slice Al al.length cl]); refine (HIC.out _ (bel_go HW.out (by first | exact HQ1.out | exact HQ0.out))).mono ?_; rintro e w9 ⟨rfl, hb9⟩; have HQ1 := Lib.hid (bel_go (by first | exact HQ1.out | exact HQ0.out) hb9); clear hb9; have yt0 := keepc HQ1.out Zt0.out; have yt1 := keepc HQ1.out Zt1.out; have yt2 := keepc HQ1.out Zt2.out; have yr5 := keepc HQ1.out Zr5.out; have yr6 := keepc HQ1.out Zr6.out; have yr7 := keepc HQ1.out Zr7.out) | (go_at_call 84; refine (HTR.out _).mono ?_; rintro e w9 ⟨rfl, hb9⟩; have HQ1 := Lib.hid (bel_go (by first | exact HQ1.out | exact HQ0.out) hb9); clear hb9; have yt0 := keepc HQ1.out Zt0.out; have yt1 := keepc HQ1.out Zt1.out; have yt2 := keepc HQ1.out Zt2.out; have yr5 := keepc HQ1.out Zr5.out; have yr6 := keepc HQ1.out Zr6.out; have yr7 := keepc HQ1.out Zr7.out) | (go_at_call_of 61 (Value.agg #[.int .i64 vr, .string fr, .slice Ar ar.length cr]); refine (HSM.out _ (bel_go HW.out (by first | exact HQ1.out | exact HQ0.out))).mono ?_; rintro e w9 ⟨rfl, hb9⟩; have HQ1 := Lib.hid (bel_go (by first | exact HQ1.out | exact HQ0.out) hb9); clear hb9; have yt0 := keepc HQ1.out Zt0.out; have yt1 := keepc HQ1.out Zt1.out; have yt2 := keepc HQ1.out Zt2.out; have yr5 := keepc HQ1.out Zr5.out; have yr6 := keepc HQ1.out Zr6.out; have yr7 := keepc HQ1.out Zr7.out))) | fail "held")
    case' true =>
      cases bb
      case' false =>
        (first | (go_region_with (first | (go_at_call_of 82 (Value.string (cutP fl)); refine (HNM.out _).mono ?_; rintro e w9 ⟨rfl, hb9⟩; have HQ1 := Lib.hid (bel_go (by first | exact HQ1.out | exact HQ0.out) hb9); clear hb9; have yt0 := keepc HQ1.out Zt0.out; have yt1 := keepc HQ1.out Zt1.out; have yt2 := keepc HQ1.out Zt2.out; have yr5 := keepc HQ1.out Zr5.out; have yr6 := keepc HQ1.out Zr6.out; have yr7 := keepc HQ1.out Zr7.out) | (go_at_call_of 83 (Value.agg #[.int .i64 vl, .string (cutP fl), .slice Al al.length cl]); refine (HIC.out _ (bel_go HW.out (by first | exact HQ1.out | exact HQ0.out))).mono ?_; rintro e w9 ⟨rfl, hb9⟩; have HQ1 := Lib.hid (bel_go (by first | exact HQ1.out | exact HQ0.out) hb9); clear hb9; have yt0 := keepc HQ1.out Zt0.out; have yt1 := keepc HQ1.out Zt1.out; have yt2 := keepc HQ1.out Zt2.out; have yr5 := keepc HQ1.out Zr5.out; have yr6 := keepc HQ1.out Zr6.out; have yr7 := keepc HQ1.out Zr7.out) | (go_at_call 84; refine (HTR.out _).mono ?_; rintro e w9 ⟨rfl, hb9⟩; have HQ1 := Lib.hid (bel_go (by first | exact HQ1.out | exact HQ0.out) hb9); clear hb9; have yt0 := keepc HQ1.out Zt0.out; have yt1 := keepc HQ1.out Zt1.out; have yt2 := keepc HQ1.out Zt2.out; have yr5 := keepc HQ1.out Zr5.out; have yr6 := keepc HQ1.out Zr6.out; have yr7 := keepc HQ1.out Zr7.out) | (go_at_call_of 61 (Value.agg #[.int .i64 vr, .string fr, .slice Ar ar.length cr]); refine (HSM.out _ (bel_go HW.out (by first | exact HQ1.out | exact HQ0.out))).mono ?_; rintro e w9 ⟨rfl, hb9⟩; have HQ1 := Lib.hid (bel_go (by first | exact HQ1.out | exact HQ0.out) hb9); clear hb9; have yt0 := keepc HQ1.out Zt0.out; have yt1 := keepc HQ1.out Zt1.out; have yt2 := keepc HQ1.out Zt2.out; have yr5 := keepc HQ1.out Zr5.out; have yr6 := keepc HQ1.out Zr6.out; have yr7 := keepc HQ1.out Zr7.out))) | fail "held")
      case' true =>
        (first | (go_region_held3 (fun w' => w'.cell? ⟨bt, 0, none⟩ = some (.int .i64 vl) ∧ w'.cell? ⟨bt, 1, none⟩ = some (.string (cutP fl)) ∧ w'.cell? ⟨bt, 2, none⟩ = some (.slice Al al.length cl) ∧ w'.cell? ⟨w.heap.size, 5, none⟩ = some (.int .i64 vr) ∧ w'.cell? ⟨w.heap.size, 6, none⟩ = some (.string fr) ∧ w'.cell? ⟨w.heap.size, 7, none⟩ = some (.slice Ar ar.length cr)) (go_keep) (first | (go_at_call_of 82 (Value.string (cutP fl)); refine (HNM.out _).mono ?_; rintro e w9 ⟨rfl, hb9⟩; have HQ1 := Lib.hid (bel_go (by first | exact HQ1.out | exact HQ0.out) hb9); clear hb9; have yt0 := keepc HQ1.out Zt0.out; have yt1 := keepc HQ1.out Zt1.out; have yt2 := keepc HQ1.out Zt2.out; have yr5 := keepc HQ1.out Zr5.out; have yr6 := keepc HQ1.out Zr6.out; have yr7 := keepc HQ1.out Zr7.out) | (go_at_call_of 83 (Value.agg #[.int .i64 vl, .string (cutP fl), .slice Al al.length cl]); refine (HIC.out _ (bel_go HW.out (by first | exact HQ1.out | exact HQ0.out))).mono ?_; rintro e w9 ⟨rfl, hb9⟩; have HQ1 := Lib.hid (bel_go (by first | exact HQ1.out | exact HQ0.out) hb9); clear hb9; have yt0 := keepc HQ1.out Zt0.out; have yt1 := keepc HQ1.out Zt1.out; have yt2 := keepc HQ1.out Zt2.out; have yr5 := keepc HQ1.out Zr5.out; have yr6 := keepc HQ1.out Zr6.out; have yr7 := keepc HQ1.out Zr7.out) | (go_at_call 84; refine (HTR.out _).mono ?_; rintro e w9 ⟨rfl, hb9⟩; have HQ1 := Lib.hid (bel_go (by first | exact HQ1.out | exact HQ0.out) hb9); clear hb9; have yt0 := keepc HQ1.out Zt0.out; have yt1 := keepc HQ1.out Zt1.out; have yt2 := keepc HQ1.out Zt2.out; have yr5 := keepc HQ1.out Zr5.out; have yr6 := keepc HQ1.out Zr6.out; have yr7 := keepc HQ1.out Zr7.out) | (go_at_call_of 61 (Value.agg #[.int .i64 vr, .string fr, .slice Ar ar.length cr]); refine (HSM.out _ (bel_go HW.out (by first | exact HQ1.out | exact HQ0.out))).mono ?_; rintro e w9 ⟨rfl, hb9⟩; have HQ1 := Lib.hid (bel_go (by first | exact HQ1.out | exact HQ0.out) hb9); clear hb9; have yt0 := keepc HQ1.out Zt0.out; have yt1 := keepc HQ1.out Zt1.out; have yt2 := keepc HQ1.out Zt2.out; have yr5 := keepc HQ1.out Zr5.out; have yr6 := keepc HQ1.out Zr6.out; have yr7 := keepc HQ1.out Zr7.out))) | fail "held")
    all_goals
      go_wp2_with fail
      go_ret
      exact ⟨ret_bool (by simp [HV.out, HAT.out]), bel_go HW.out HQ1.out⟩
set_option maxRecDepth 100000 in
set_option maxHeartbeats 3200000 in
theorem ratom_any (k : Int) (n : ByteArray) (vl : Int) (fl : ByteArray) (al : List Tm) (vr : Int) (fr : ByteArray) (ar : List Tm) (ts : List Fm) (S : Nat → Prop) (w : World) (Al : Option Addr) (cl : Nat) (Ar : Option Addr) (cr : Nat) (A : Option Addr) (c : Nat) (hl : (Tm.mk vl fl al).wt ≤ 1152921504606846976) (hr : (Tm.mk vr fr ar).wt ≤ 1152921504606846976) (h1 : ST S w Al al.length cl al) (h2 : ST S w Ar ar.length cr ar) :
    Calls Tryz.prog 54 #[.agg #[.int .i64 k, .string n, .int .i64 vl, .string fl, .slice Al al.length cl, .int .i64 vr, .string fr, .slice Ar ar.length cr, .slice A ts.length c]] w fun e w' => e = .returned (.bool (atomOK (.mk vl fl al) (.mk vr fr ar))) ∧ Below w.heap.size w w' := by
  have hcs := cut_size fl
  have hfl : fl.size ≤ 1152921504606846976 := by rw [Tm.wt] at hl; omega
  have hcw : (Tm.mk vl (cutP fl) al).wt ≤ 1152921504606846976 := by rw [Tm.wt] at hl ⊢; omega
  have HNM := Lib.hid (fun w' => (risName_any (cutP fl) w' (by omega)).mono (fun e w2 h => (show e = .returned (.bool (isNameB (bs (cutP fl)))) ∧ Below w'.heap.size w' w2 from ⟨h.1, h.2 ▸ Below.refl _ _⟩)))
  have HIL := Lib.hid (fun w' (hb : Below w.heap.size w w') => rinner0 _ vl fl al S w' Al cl hl (Nat.le_refl _) (h1.stay (Stay.below hb)))
  have HIR := Lib.hid (fun w' (hb : Below w.heap.size w w') => rinner0 _ vr fr ar S w' Ar cr hr (Nat.le_refl _) (h2.stay (Stay.below hb)))
  have HIC := Lib.hid (fun w' (hb : Below w.heap.size w w') => rinner0 _ vl (cutP fl) al S w' Al cl hcw (Nat.le_refl _) (h1.stay (Stay.below hb)))
  have HTR := Lib.hid (fun w' => rtrue_any w')
  have HSM := Lib.hid (fun w' (hb : Below w.heap.size w w') => rtsame _ vr fr ar 0 truS [] S (fun _ => False) w' Ar cr none 0 (Nat.le_refl _) (h2.stay (Stay.below hb)) (ST.nil _ _ _))
  have hv : atomOK (.mk vl fl al) (.mk vr fr ar) = if atP fl then isNameB (bs (cutP fl)) && ((Tm.mk vl (cutP fl) al).inner && (Tm.mk vr fr ar).same (.mk 0 truS [])) else (Tm.mk vl fl al).inner && (Tm.mk vr fr ar).inner := rfl
  have HV := Lib.hid hv
  generalize atomOK (.mk vl fl al) (.mk vr fr ar) = res at *
  clear hv h1 h2 hl hr hcw hcs
  have HQ0 := Lib.hid (Below.refl (w.heap.size + 1) (w.alloc (.cells #[.int .i64 k, .string n, .int .i64 vl, .string fl, .slice Al al.length cl, .int .i64 vr, .string fr, .slice Ar ar.length cr, .slice A ts.length c] 27)))
  rcases Nat.eq_zero_or_pos fl.size with h0 | h0
  · have HAT : Hid (atP fl = false) := Lib.hid (by obtain rfl := empty_of fl h0; decide)
    go_enter Tryz.func54, Tryz.ntmps54
    go_wp2_with fail
    refine (HIL.out _ (bel_box HQ0.out)).mono ?_
    rintro e w3 ⟨rfl, hb3⟩
    have HQ3 := Lib.hid (bel_step HQ0.out hb3)
    clear hb3
    have z5 := box_cell HQ3.out 5 _ rfl
    have z6 := box_cell HQ3.out 6 _ rfl
    have z7 := box_cell HQ3.out 7 _ rfl
    cases hq : (Tm.mk vl fl al).inner
    all_goals have HQI := Lib.hid hq; clear hq
    · go_wp2_with fail
      go_ret
      exact ⟨ret_bool (by simp [HV.out, HAT.out, HQI.out]), bel_box HQ3.out⟩
    · go_wp2_with fail
      refine (HIR.out _ (bel_box HQ3.out)).mono ?_
      rintro e w4 ⟨rfl, hb4⟩
      have HQ4 := Lib.hid (bel_step HQ3.out hb4)
      clear hb4
      go_wp2_with fail
      go_ret
      exact ⟨ret_bool (by simp [HV.out, HAT.out, HQI.out]), bel_box HQ4.out⟩
  have haf := at_first fl h0
  have h64 : ((fl[0].toNat : Int) == 64) = (fl[0] == 64) := by rw [Bool.eq_iff_iff]; simp [← UInt8.toNat_inj]; omega
  rw [← h64] at haf
  have h01 : (0 : Int) < (fl.size : Int) := by omega
  clear h64
  cases hat : ((fl[0].toNat : Int) == 64)
  · have HAT : Hid (atP fl = false) := Lib.hid (haf.trans hat)
    clear haf
    go_enter Tryz.func54, Tryz.ntmps54
    go_wp2_with fail
    refine (HIL.out _ (bel_box HQ0.out)).mono ?_
    rintro e w3 ⟨rfl, hb3⟩
    have HQ3 := Lib.hid (bel_step HQ0.out hb3)
    clear hb3
    have z5 := box_cell HQ3.out 5 _ rfl
    have z6 := box_cell HQ3.out 6 _ rfl
    have z7 := box_cell HQ3.out 7 _ rfl
    cases hq : (Tm.mk vl fl al).inner
    all_goals have HQI := Lib.hid hq; clear hq
    · go_wp2_with fail
      go_ret
      exact ⟨ret_bool (by simp [HV.out, HAT.out, HQI.out]), bel_box HQ3.out⟩
    · go_wp2_with fail
      refine (HIR.out _ (bel_box HQ3.out)).mono ?_
      rintro e w4 ⟨rfl, hb4⟩
      have HQ4 := Lib.hid (bel_step HQ3.out hb4)
      clear hb4
      go_wp2_with fail
      go_ret
      exact ⟨ret_bool (by simp [HV.out, HAT.out, HQI.out]), bel_box HQ4.out⟩
  · have HAT : Hid (atP fl = true) := Lib.hid (haf.trans hat)
    have hcx := at_cut fl HAT.out
    have h1s : (1 : Int) ≤ (fl.size : Int) := by omega
    clear haf
    go_enter Tryz.func54, Tryz.ntmps54
    go_upto_region 4 with (fail)
    have HW : Hid (Below w.heap.size w ((w.alloc (.cells #[.int .i64 k, .string n, .int .i64 vl, .string fl, .slice Al al.length cl, .int .i64 vr, .string fr, .slice Ar ar.length cr, .slice A ts.length c] 27)).alloc (.cells #[.int .i64 vl, .string (cutP fl), .slice Al al.length cl] 24))) := Lib.hid (((Below.refl _ w).alloc (Nat.le_refl _) _).alloc (by simp) _)
    have HBT := Lib.hid (Blk.new (w.alloc (.cells #[.int .i64 k, .string n, .int .i64 vl, .string fl, .slice Al al.length cl, .int .i64 vr, .string fr, .slice Ar ar.length cr, .slice A ts.length c] 27)) 24 [.int .i64 vl, .string (cutP fl), .slice Al al.length cl])
    have HWB := Lib.hid (HQ0.out.alloc (by simp) (.cells #[.int .i64 vl, .string (cutP fl), .slice Al al.length cl] 24))
    simp only [List.toArray, World.size_alloc] at HBT
    rw [← hcx]
    clear hcx
    generalize hW : (w.alloc (.cells #[.int .i64 k, .string n, .int .i64 vl, .string fl, .slice Al al.length cl, .int .i64 vr, .string fr, .slice Ar ar.length cr, .slice A ts.length c] 27)).alloc (.cells #[.int .i64 vl, .string (cutP fl), .slice Al al.length cl] 24) = W at *
    have yt0 := HBT.out.cell 0
    have yt1 := HBT.out.cell 1
    have yt2 := HBT.out.cell 2
    have yr5 := box_cell HWB.out 5 _ rfl
    have yr6 := box_cell HWB.out 6 _ rfl
    have yr7 := box_cell HWB.out 7 _ rfl
    clear hW
    generalize hbt : w.heap.size + 1 = bt at *
    simp only [List.getElem?_cons_zero, List.getElem?_cons_succ] at yt0 yt1 yt2
    clear hbt HBT HWB
    have Zt0 := Lib.hid yt0
    have Zt1 := Lib.hid yt1
    have Zt2 := Lib.hid yt2
    have Zr5 := Lib.hid yr5
    have Zr6 := Lib.hid yr6
    have Zr7 := Lib.hid yr7
    generalize isNameB (bs (cutP fl)) = ba at *
    generalize (Tm.mk vl (cutP fl) al).inner = bb at *
    generalize (Tm.mk vr fr ar).same (.mk 0 truS []) = bc at *
    have HQ0 := Lib.hid (bel_drew1 W)
    cases ba
    case' false =>
      (first | (go_region_with (first | (go_at_call_of 75 (Value.string (cutP fl)); refine (HNM.out _).mono ?_; rintro e w9 ⟨rfl, hb9⟩; have HQ1 := Lib.hid (bel_go (by first | exact HQ1.out | exact HQ0.out) hb9); clear hb9; have yt0 := keepc HQ1.out Zt0.out; have yt1 := keepc HQ1.out Zt1.out; have yt2 := keepc HQ1.out Zt2.out; have yr5 := keepc HQ1.out Zr5.out; have yr6 := keepc HQ1.out Zr6.out; have yr7 := keepc HQ1.out Zr7.out) | (go_at_call_of 76 (Value.agg #[.int .i64 vl, .string (cutP fl), .slice Al al.length cl]); refine (HIC.out _ (bel_go HW.out (by first | exact HQ1.out | exact HQ0.out))).mono ?_; rintro e w9 ⟨rfl, hb9⟩; have HQ1 := Lib.hid (bel_go (by first | exact HQ1.out | exact HQ0.out) hb9); clear hb9; have yt0 := keepc HQ1.out Zt0.out; have yt1 := keepc HQ1.out Zt1.out; have yt2 := keepc HQ1.out Zt2.out; have yr5 := keepc HQ1.out Zr5.out; have yr6 := keepc HQ1.out Zr6.out; have yr7 := keepc HQ1.out Zr7.out) | (go_at_call 47; refine (HTR.out _).mono ?_; rintro e w9 ⟨rfl, hb9⟩; have HQ1 := Lib.hid (bel_go (by first | exact HQ1.out | exact HQ0.out) hb9); clear hb9; have yt0 := keepc HQ1.out Zt0.out; have yt1 := keepc HQ1.out Zt1.out; have yt2 := keepc HQ1.out Zt2.out; have yr5 := keepc HQ1.out Zr5.out; have yr6 := keepc HQ1.out Zr6.out; have yr7 := keepc HQ1.out Zr7.out) | (go_at_call_of 22 (Value.agg #[.int .i64 vr, .string fr, .slice Ar ar.length cr]); refine (HSM.out _ (bel_go HW.out (by first | exact HQ1.out | exact HQ0.out))).mono ?_; rintro e w9 ⟨rfl, hb9⟩; have HQ1 := Lib.hid (bel_go (by first | exact HQ1.out | exact HQ0.out) hb9); clear hb9; have yt0 := keepc HQ1.out Zt0.out; have yt1 := keepc HQ1.out Zt1.out; have yt2 := keepc HQ1.out Zt2.out; have yr5 := keepc HQ1.out Zr5.out; have yr6 := keepc HQ1.out Zr6.out; have yr7 := keepc HQ1.out Zr7.out))) | fail "held")
    case' true =>
      cases bb
      case' false =>
        (first | (go_region_with (first | (go_at_call_of 75 (Value.string (cutP fl)); refine (HNM.out _).mono ?_; rintro e w9 ⟨rfl, hb9⟩; have HQ1 := Lib.hid (bel_go (by first | exact HQ1.out | exact HQ0.out) hb9); clear hb9; have yt0 := keepc HQ1.out Zt0.out; have yt1 := keepc HQ1.out Zt1.out; have yt2 := keepc HQ1.out Zt2.out; have yr5 := keepc HQ1.out Zr5.out; have yr6 := keepc HQ1.out Zr6.out; have yr7 := keepc HQ1.out Zr7.out) | (go_at_call_of 76 (Value.agg #[.int .i64 vl, .string (cutP fl), .slice Al al.length cl]); refine (HIC.out _ (bel_go HW.out (by first | exact HQ1.out | exact HQ0.out))).mono ?_; rintro e w9 ⟨rfl, hb9⟩; have HQ1 := Lib.hid (bel_go (by first | exact HQ1.out | exact HQ0.out) hb9); clear hb9; have yt0 := keepc HQ1.out Zt0.out; have yt1 := keepc HQ1.out Zt1.out; have yt2 := keepc HQ1.out Zt2.out; have yr5 := keepc HQ1.out Zr5.out; have yr6 := keepc HQ1.out Zr6.out; have yr7 := keepc HQ1.out Zr7.out) | (go_at_call 47; refine (HTR.out _).mono ?_; rintro e w9 ⟨rfl, hb9⟩; have HQ1 := Lib.hid (bel_go (by first | exact HQ1.out | exact HQ0.out) hb9); clear hb9; have yt0 := keepc HQ1.out Zt0.out; have yt1 := keepc HQ1.out Zt1.out; have yt2 := keepc HQ1.out Zt2.out; have yr5 := keepc HQ1.out Zr5.out; have yr6 := keepc HQ1.out Zr6.out; have yr7 := keepc HQ1.out Zr7.out) | (go_at_call_of 22 (Value.agg #[.int .i64 vr, .string fr, .slice Ar ar.length cr]); refine (HSM.out _ (bel_go HW.out (by first | exact HQ1.out | exact HQ0.out))).mono ?_; rintro e w9 ⟨rfl, hb9⟩; have HQ1 := Lib.hid (bel_go (by first | exact HQ1.out | exact HQ0.out) hb9); clear hb9; have yt0 := keepc HQ1.out Zt0.out; have yt1 := keepc HQ1.out Zt1.out; have yt2 := keepc HQ1.out Zt2.out; have yr5 := keepc HQ1.out Zr5.out; have yr6 := keepc HQ1.out Zr6.out; have yr7 := keepc HQ1.out Zr7.out))) | fail "held")
      case' true =>
        (first | (go_region_held3 (fun w' => w'.cell? ⟨bt, 0, none⟩ = some (.int .i64 vl) ∧ w'.cell? ⟨bt, 1, none⟩ = some (.string (cutP fl)) ∧ w'.cell? ⟨bt, 2, none⟩ = some (.slice Al al.length cl) ∧ w'.cell? ⟨w.heap.size, 5, none⟩ = some (.int .i64 vr) ∧ w'.cell? ⟨w.heap.size, 6, none⟩ = some (.string fr) ∧ w'.cell? ⟨w.heap.size, 7, none⟩ = some (.slice Ar ar.length cr)) (go_keep) (first | (go_at_call_of 75 (Value.string (cutP fl)); refine (HNM.out _).mono ?_; rintro e w9 ⟨rfl, hb9⟩; have HQ1 := Lib.hid (bel_go (by first | exact HQ1.out | exact HQ0.out) hb9); clear hb9; have yt0 := keepc HQ1.out Zt0.out; have yt1 := keepc HQ1.out Zt1.out; have yt2 := keepc HQ1.out Zt2.out; have yr5 := keepc HQ1.out Zr5.out; have yr6 := keepc HQ1.out Zr6.out; have yr7 := keepc HQ1.out Zr7.out) | (go_at_call_of 76 (Value.agg #[.int .i64 vl, .string (cutP fl), .slice Al al.length cl]); refine (HIC.out _ (bel_go HW.out (by first | exact HQ1.out | exact HQ0.out))).mono ?_; rintro e w9 ⟨rfl, hb9⟩; have HQ1 := Lib.hid (bel_go (by first | exact HQ1.out | exact HQ0.out) hb9); clear hb9; have yt0 := keepc HQ1.out Zt0.out; have yt1 := keepc HQ1.out Zt1.out; have yt2 := keepc HQ1.out Zt2.out; have yr5 := keepc HQ1.out Zr5.out; have yr6 := keepc HQ1.out Zr6.out; have yr7 := keepc HQ1.out Zr7.out) | (go_at_call 47; refine (HTR.out _).mono ?_; rintro e w9 ⟨rfl, hb9⟩; have HQ1 := Lib.hid (bel_go (by first | exact HQ1.out | exact HQ0.out) hb9); clear hb9; have yt0 := keepc HQ1.out Zt0.out; have yt1 := keepc HQ1.out Zt1.out; have yt2 := keepc HQ1.out Zt2.out; have yr5 := keepc HQ1.out Zr5.out; have yr6 := keepc HQ1.out Zr6.out; have yr7 := keepc HQ1.out Zr7.out) | (go_at_call_of 22 (Value.agg #[.int .i64 vr, .string fr, .slice Ar ar.length cr]); refine (HSM.out _ (bel_go HW.out (by first | exact HQ1.out | exact HQ0.out))).mono ?_; rintro e w9 ⟨rfl, hb9⟩; have HQ1 := Lib.hid (bel_go (by first | exact HQ1.out | exact HQ0.out) hb9); clear hb9; have yt0 := keepc HQ1.out Zt0.out; have yt1 := keepc HQ1.out Zt1.out; have yt2 := keepc HQ1.out Zt2.out; have yr5 := keepc HQ1.out Zr5.out; have yr6 := keepc HQ1.out Zr6.out; have yr7 := keepc HQ1.out Zr7.out))) | fail "held")
    all_goals
      go_wp2_with fail
      go_ret
      exact ⟨ret_bool (by simp [HV.out, HAT.out]), bel_go HW.out HQ1.out⟩
end Go.Proofs.YtndjjnnljihmnaaGreat
