/- Which terms have a right shape: contracts of kids and inner, the package's and the reference's; searches by closures. -/
import Derived.Test.YtndjjnnljihmnaaGreatFmC
import Derived.Test.YtndjjnnljihmnaaGreatLxS
import Derived.Deep.DeepCutAuto
import Derived.StillTailTactics
namespace Go.Proofs.YtndjjnnljihmnaaGreat
open Go.RowKit Go.Proofs.YtndjjnnljihmnaaGreat.Lx
set_option linter.unusedVariables false
set_option linter.unusedSimpArgs false
/-- The first element that does not pass a test, counted from i on; -1: there is none. -/
def fstBad {α : Type} (p : α → Bool) : List α → Nat → Int
  | [], _ => -1
  | x :: r, i => if p x then fstBad p r (i + 1) else i
theorem fst_all {α : Type} (p : α → Bool) : ∀ (l : List α) (i : Nat), decide (0 ≤ fstBad p l i) = !(l.all p)
  | [], i => rfl
  | x :: r, i => by
    have ih := fst_all p r (i + 1)
    rw [fstBad, List.all_cons]
    cases p x
    · simp
    · simpa using ih
theorem fst_drop {α : Type} (p : α → Bool) (l : List α) (i : Nat) (h : i < l.length) : fstBad p (l.drop i) i = if p l[i] then fstBad p (l.drop (i + 1)) (i + 1) else i := by
  rw [List.drop_eq_getElem_cons h, fstBad]
def kidsI (k : Int) : Int := if k = 1 ∨ k = 9 ∨ k = 10 then 0 else if k = 2 ∨ k = 7 ∨ k = 8 then 1 else if 2 < k ∧ k < 7 then 2 else -1
def nameOK (s : ByteArray) : Bool := isNameB (bs s)
def varOK (s : ByteArray) : Bool := isVarB (bs s)
/-- Is a term's head right? -/
def headOK (v : Int) (f : ByteArray) (n : Nat) : Bool := (v == 0) && (decide (n ≤ 16) && (nameOK f || (varOK f && (n == 0))))
mutual
def Tm.inner : Tm → Bool
  | .mk v f ts => headOK v f ts.length && Tm.inners ts
def Tm.inners : List Tm → Bool
  | [] => true
  | t :: r => Tm.inner t && Tm.inners r
end
theorem Tm.inners_all : ∀ ts : List Tm, Tm.inners ts = ts.all Tm.inner
  | [] => rfl
  | t :: r => by rw [Tm.inners, Tm.inners_all r]; rfl
theorem Tm.inners_drop (ts : List Tm) (i : Nat) (h : i < ts.length) : Tm.inners (ts.drop i) = (Tm.inner ts[i] && Tm.inners (ts.drop (i + 1))) := by
  rw [List.drop_eq_getElem_cons h, Tm.inners]
theorem kids_any (k : Int) (w : World) : Calls Tryz.prog 58 #[.int .i64 k] w fun e w' => e = .returned (.int .i64 (kidsI k)) ∧ w = w' := by
  by_cases h1 : k = 1
  · subst h1
    go_enter Tryz.func58, Tryz.ntmps58
    go_wp2
    go_ret
    exact ⟨rfl, rfl⟩
  by_cases h9 : k = 9
  · subst h9
    go_enter Tryz.func58, Tryz.ntmps58
    go_wp2
    go_ret
    exact ⟨rfl, rfl⟩
  by_cases h10 : k = 10
  · subst h10
    go_enter Tryz.func58, Tryz.ntmps58
    go_wp2
    go_ret
    exact ⟨rfl, rfl⟩
  by_cases h2 : k = 2
  · subst h2
    go_enter Tryz.func58, Tryz.ntmps58
    go_wp2
    go_ret
    exact ⟨rfl, rfl⟩
  by_cases h7 : k = 7
  · subst h7
    go_enter Tryz.func58, Tryz.ntmps58
    go_wp2
    go_ret
    exact ⟨rfl, rfl⟩
  by_cases h8 : k = 8
  · subst h8
    go_enter Tryz.func58, Tryz.ntmps58
    go_wp2
    go_ret
    exact ⟨rfl, rfl⟩
  by_cases h3 : k = 3
  · subst h3
    go_enter Tryz.func58, Tryz.ntmps58
    go_wp2
    go_ret
    exact ⟨rfl, rfl⟩
  by_cases h4 : k = 4
  · subst h4
    go_enter Tryz.func58, Tryz.ntmps58
    go_wp2
    go_ret
    exact ⟨rfl, rfl⟩
  by_cases h5 : k = 5
  · subst h5
    go_enter Tryz.func58, Tryz.ntmps58
    go_wp2
    go_ret
    exact ⟨rfl, rfl⟩
  by_cases h6 : k = 6
  · subst h6
    go_enter Tryz.func58, Tryz.ntmps58
    go_wp2
    go_ret
    exact ⟨rfl, rfl⟩
  have hk : kidsI k = -1 := by unfold kidsI; rw [if_neg (by omega), if_neg (by omega), if_neg (by omega)]
  have HK := Lib.hid hk
  have d1 : (k == 1) = false := by simpa using h1
  have d9 : (k == 9) = false := by simpa using h9
  have d10 : (k == 10) = false := by simpa using h10
  have d2 : (k == 2) = false := by simpa using h2
  have d7 : (k == 7) = false := by simpa using h7
  have d8 : (k == 8) = false := by simpa using h8
  have d3 : (k == 3) = false := by simpa using h3
  have d4 : (k == 4) = false := by simpa using h4
  have d5 : (k == 5) = false := by simpa using h5
  have d6 : (k == 6) = false := by simpa using h6
  clear hk h1 h9 h10 h2 h7 h8 h3 h4 h5 h6
  by_cases g1 : 2 < k
  · have g2 : ¬ k < 7 := by intro h; simp at d3 d4 d5 d6; omega
    go_enter Tryz.func58, Tryz.ntmps58
    go_wp2
    go_ret
    exact ⟨ret_int (by rw [HK.out]), rfl⟩
  · go_enter Tryz.func58, Tryz.ntmps58
    go_wp2
    go_ret
    exact ⟨ret_int (by rw [HK.out]), rfl⟩
theorem rkids_any (k : Int) (w : World) : Calls Tryz.prog 52 #[.int .i64 k] w fun e w' => e = .returned (.int .i64 (kidsI k)) ∧ w = w' := by
  by_cases h1 : k = 1
  · subst h1
    go_enter Tryz.func52, Tryz.ntmps52
    go_wp2
    go_ret
    exact ⟨rfl, rfl⟩
  by_cases h9 : k = 9
  · subst h9
    go_enter Tryz.func52, Tryz.ntmps52
    go_wp2
    go_ret
    exact ⟨rfl, rfl⟩
  by_cases h10 : k = 10
  · subst h10
    go_enter Tryz.func52, Tryz.ntmps52
    go_wp2
    go_ret
    exact ⟨rfl, rfl⟩
  by_cases h2 : k = 2
  · subst h2
    go_enter Tryz.func52, Tryz.ntmps52
    go_wp2
    go_ret
    exact ⟨rfl, rfl⟩
  by_cases h7 : k = 7
  · subst h7
    go_enter Tryz.func52, Tryz.ntmps52
    go_wp2
    go_ret
    exact ⟨rfl, rfl⟩
  by_cases h8 : k = 8
  · subst h8
    go_enter Tryz.func52, Tryz.ntmps52
    go_wp2
    go_ret
    exact ⟨rfl, rfl⟩
  by_cases h3 : k = 3
  · subst h3
    go_enter Tryz.func52, Tryz.ntmps52
    go_wp2
    go_ret
    exact ⟨rfl, rfl⟩
  by_cases h4 : k = 4
  · subst h4
    go_enter Tryz.func52, Tryz.ntmps52
    go_wp2
    go_ret
    exact ⟨rfl, rfl⟩
  by_cases h5 : k = 5
  · subst h5
    go_enter Tryz.func52, Tryz.ntmps52
    go_wp2
    go_ret
    exact ⟨rfl, rfl⟩
  by_cases h6 : k = 6
  · subst h6
    go_enter Tryz.func52, Tryz.ntmps52
    go_wp2
    go_ret
    exact ⟨rfl, rfl⟩
  have hk : kidsI k = -1 := by unfold kidsI; rw [if_neg (by omega), if_neg (by omega), if_neg (by omega)]
  have HK := Lib.hid hk
  have d1 : (k == 1) = false := by simpa using h1
  have d9 : (k == 9) = false := by simpa using h9
  have d10 : (k == 10) = false := by simpa using h10
  have d2 : (k == 2) = false := by simpa using h2
  have d7 : (k == 7) = false := by simpa using h7
  have d8 : (k == 8) = false := by simpa using h8
  have d3 : (k == 3) = false := by simpa using h3
  have d4 : (k == 4) = false := by simpa using h4
  have d5 : (k == 5) = false := by simpa using h5
  have d6 : (k == 6) = false := by simpa using h6
  clear hk h1 h9 h10 h2 h7 h8 h3 h4 h5 h6
  by_cases g1 : 2 < k
  · have g2 : ¬ k < 7 := by intro h; simp at d3 d4 d5 d6; omega
    go_enter Tryz.func52, Tryz.ntmps52
    go_wp2
    go_ret
    exact ⟨ret_int (by rw [HK.out]), rfl⟩
  · go_enter Tryz.func52, Tryz.ntmps52
    go_wp2
    go_ret
    exact ⟨ret_int (by rw [HK.out]), rfl⟩
/-- A closure that answers the opposite of a test, at terms of which P holds. -/
def ClI (P : Tm → Prop) (p : Tm → Bool) : Prop := ∀ (v : Int) (f : ByteArray) (ts : List Tm) (S : Nat → Prop) (w : World) (A : Option Addr) (c : Nat), P (Tm.mk v f ts) → ST S w A ts.length c ts →
    Calls Tryz.prog 97 #[.agg #[.int .i64 v, .string f, .slice A ts.length c]] w fun e w' => e = .returned (.bool (!p (Tm.mk v f ts))) ∧ Below w.heap.size w w'
set_option maxHeartbeats 1600000 in
theorem indexI (P : Tm → Prop) (p : Tm → Bool) (hcl : ClI P p) (ts : List Tm) (hP : ∀ (i : Nat) (h : i < ts.length), P ts[i]) (S : Nat → Prop) (w : World) (A : Option Addr) (c : Nat) (h : ST S w A ts.length c ts) :
    Calls Tryz.prog 108 #[.slice A ts.length c, .func (.func 97) #[] #[]] w fun e w' => e = .returned (.int .i64 (fstBad p ts 0)) ∧ Below w.heap.size w w' := by
  have HST := Lib.hid h
  have HCL := Lib.hid hcl
  have HP := Lib.hid hP
  have hl := h.2.2.1
  clear h hcl hP
  go_enter Tryz.func108, Tryz.ntmps108
  go_wp2_with fail
  go_loopw [8] (fun vi wl => ∃ i : Nat, i ≤ ts.length ∧ vi = .int .i64 i ∧ fstBad p ts 0 = fstBad p (ts.drop i) i ∧ Below w.heap.size w wl) (fun vi _ => ts.length - (intOf vi).toNat)
  case atStart => exact ⟨0, by omega, rfl, rfl, Below.refl _ _⟩
  case round =>
    obtain ⟨i, hi, rfl, hk, hb⟩ := hrel
    have HK := Lib.hid hk
    have HB := Lib.hid hb
    clear hk hb
    by_cases hlt : i < ts.length
    · obtain ⟨b, o, hA, v', f', us, Ai, ci, hm, hs1, k0, k1, k2⟩ := (HST.out.stay (Stay.below HB.out)).at i hlt
      have HS1 := Lib.hid hs1
      clear hs1
      subst hA
      have HM := Lib.hid hm
      have HD := Lib.hid (fst_drop p ts i hlt)
      clear hm
      go_wp2_with fail
      refine (HCL.out v' f' us S wr Ai ci (by have := HP.out i hlt; rw [HM.out] at this; exact this) HS1.out).mono ?_
      rintro e w2 ⟨rfl, hb2⟩
      have HB2 := Lib.hid (HB.out.trans (hb2.mono HB.out.size))
      clear hb2
      cases hq : p (Tm.mk v' f' us)
      · have HF := Lib.hid (show fstBad p ts 0 = i by rw [HK.out, HD.out, HM.out, hq]; rfl)
        go_wp2_with fail
        go_ret
        exact ⟨ret_int (by rw [HF.out]), HB2.out⟩
      · have HF := Lib.hid (show fstBad p ts 0 = fstBad p (ts.drop (i + 1)) (i + 1) by rw [HK.out, HD.out, HM.out, hq]; rfl)
        have HI := Lib.hid hlt
        go_wp2_with fail
        go_roundw
        case rel => exact ⟨i + 1, HI.out, by go_num, HF.out, HB2.out⟩
        case measure => have := HI.out; simp [intOf]; omega
    · obtain rfl : i = ts.length := by omega
      have HF := Lib.hid (show fstBad p ts 0 = -1 by rw [HK.out, List.drop_length]; rfl)
      have d3 : decide (ts.length < ts.length) = false := by simp
      go_wp2_with fail
      go_ret
      exact ⟨ret_int (by rw [HF.out]), HB.out⟩
theorem someI (P : Tm → Prop) (p : Tm → Bool) (hcl : ClI P p) (ts : List Tm) (hP : ∀ (i : Nat) (h : i < ts.length), P ts[i]) (S : Nat → Prop) (w : World) (A : Option Addr) (c : Nat) (h : ST S w A ts.length c ts) :
    Calls Tryz.prog 96 #[.slice A ts.length c, .func (.func 97) #[] #[]] w fun e w' => e = .returned (.bool (!(ts.all p))) ∧ Below w.heap.size w w' := by
  have HI := Lib.hid (indexI P p hcl ts hP S w A c h)
  have HF := Lib.hid (fst_all p ts 0)
  clear hcl hP h
  go_enter Tryz.func96, Tryz.ntmps96
  go_wp2_with fail
  refine HI.out.mono ?_
  rintro e w2 ⟨rfl, hb2⟩
  go_wp2_with fail
  go_ret
  exact ⟨ret_bool (by rw [← HF.out]), hb2⟩
/-- inner, up to a size. -/
def InnerAt (fn : Nat) (N : Nat) : Prop := ∀ (v : Int) (f : ByteArray) (ts : List Tm) (S : Nat → Prop) (w : World) (A : Option Addr) (c : Nat), (Tm.mk v f ts).wt ≤ N → N ≤ 1152921504606846976 → ST S w A ts.length c ts →
    Calls Tryz.prog fn #[.agg #[.int .i64 v, .string f, .slice A ts.length c]] w fun e w' => e = .returned (.bool (Tm.mk v f ts).inner) ∧ Below w.heap.size w w'
set_option maxRecDepth 100000 in
set_option maxHeartbeats 3200000 in
theorem inner0 : ∀ N, InnerAt 83 N := by
  intro N
  induction N with
  | zero => intro v f ts S w A c h; rw [Tm.wt] at h; omega
  | succ N ih =>
    intro v f ts S w A c h hN hst
    have hw : f.size + Tm.wts ts ≤ N := by rw [Tm.wt] at h; omega
    have hfs : f.size ≤ 9223372036854775807 := by omega
    have hl := hst.2.2.1
    have hv : (Tm.mk v f ts).inner = (headOK v f ts.length && Tm.inners ts) := by rw [Tm.inner]
    have hcl : ClI (fun t => t.wt ≤ N) Tm.inner := by
      intro v' f' us S' w' A' c' hwt hs'
      have HI := Lib.hid (fun w2 (hb : Below w'.heap.size w' w2) => ih v' f' us S' w2 A' c' hwt (by omega) (hs'.stay (Stay.below hb)))
      clear hs' hst
      go_enter Tryz.func97, Tryz.ntmps97
      go_wp2_with fail
      refine (HI.out _ ((Below.refl _ w').alloc (Nat.le_refl _) _)).mono ?_
      rintro e w2 ⟨rfl, hb2⟩
      have HB2 := Lib.hid (((Below.refl _ w').alloc (Nat.le_refl _) _).trans (hb2.mono (by simp)))
      clear hb2
      go_wp2_with fail
      go_ret
      exact ⟨rfl, HB2.out⟩
    have HSOME := Lib.hid (fun w' (hb : Below w.heap.size w w') => someI _ Tm.inner hcl ts (fun i h => by have := Tm.wts_le ts i h; show Tm.wt _ ≤ N; omega) S w' A c (hst.stay (Stay.below hb)))
    have HNM := Lib.hid (fun w' => isName_any f w' hfs)
    have HVR := Lib.hid (fun w' => isVar_any f w' hfs)
    have HALL := Lib.hid (Tm.inners_all ts)
    rw [hv]
    clear hst hv hcl ih h hN hw hfs
    go_enter Tryz.func83, Tryz.ntmps83
    go_upto_region 1 with (fail)
    go_cut [3] (fun va wx => va = .bool (nameOK f || (varOK f && (ts.length == 0))) ∧ Below (w.heap.size + 1) (w.alloc (.cells #[.int .i64 v, .string f, .slice A ts.length c] 24)) wx)
    case first =>
      cases q1 : nameOK f
      · cases q2 : varOK f
        · go_wp2_with fail
          refine (HNM.out _).mono ?_
          rw [show isNameB (bs f) = false from q1]
          rintro e w2 ⟨rfl, hb2⟩
          have HB2 := Lib.hid (bel_step (Below.refl _ _) hb2)
          have z1 := box_cell HB2.out 1 _ rfl
          clear hb2
          go_wp2_with fail
          refine (HVR.out _).mono ?_
          rw [show isVarB (bs f) = false from q2]
          rintro e w3 ⟨rfl, rfl⟩
          go_wp2_with fail
          go_meet
          exact ⟨by first | rfl | simp [q1, q2], HB2.out⟩
        · cases q3 : (ts.length == 0)
          all_goals
            have q3' : ((ts.length : Int) == 0) = _ := (show ((ts.length : Int) == 0) = (ts.length == 0) by rw [Bool.eq_iff_iff]; simp).trans q3
            go_wp2_with fail
            refine (HNM.out _).mono ?_
            rw [show isNameB (bs f) = false from q1]
            rintro e w2 ⟨rfl, hb2⟩
            have HB2 := Lib.hid (bel_step (Below.refl _ _) hb2)
            have z1 := box_cell HB2.out 1 _ rfl
            have z2 := box_cell HB2.out 2 _ rfl
            clear hb2
            go_wp2_with fail
            refine (HVR.out _).mono ?_
            rw [show isVarB (bs f) = true from q2]
            rintro e w3 ⟨rfl, rfl⟩
            go_wp2_with fail
            go_meet
            exact ⟨by first | rfl | simp [q1, q2, q3], HB2.out⟩
      · go_wp2_with fail
        refine (HNM.out _).mono ?_
        rw [show isNameB (bs f) = true from q1]
        rintro e w2 ⟨rfl, hb2⟩
        have HB2 := Lib.hid (bel_step (Below.refl _ _) hb2)
        clear hb2
        go_wp2_with fail
        go_meet
        exact ⟨by first | rfl | simp [q1], HB2.out⟩
    case rest =>
      obtain ⟨rfl, hbc⟩ := hcut
      have HBC := Lib.hid hbc
      have z0 := box_cell hbc 0 _ rfl
      have z2 := box_cell hbc 2 _ rfl
      have HV : Hid (headOK v f ts.length = ((v == 0) && (decide (ts.length ≤ 16) && (nameOK f || (varOK f && (ts.length == 0)))))) := Lib.hid rfl
      clear hbc
      generalize (nameOK f || (varOK f && (ts.length == 0))) = q at *
      cases q1 : (v == 0)
      · go_wp2_with fail
        go_ret
        exact ⟨ret_bool (by rw [HV.out]; simp [q1]), bel_box HBC.out⟩
      · by_cases q2 : ts.length ≤ 16
        · have q2' : decide ((ts.length : Int) ≤ 16) = true := by simp; omega
          have q2'' : decide (ts.length ≤ 16) = true := by simpa using q2
          cases q
          · go_wp2_with fail
            go_ret
            exact ⟨ret_bool (by rw [HV.out]; simp), bel_box HBC.out⟩
          · go_wp2_with fail
            refine (HSOME.out _ (bel_box HBC.out)).mono ?_
            rintro e w2 ⟨rfl, hb2⟩
            have HB2 := Lib.hid ((bel_box HBC.out).trans (hb2.mono (bel_box HBC.out).size))
            clear hb2
            go_wp2_with fail
            go_ret
            exact ⟨ret_bool (by rw [HV.out, HALL.out, q1]; simp [q2]), HB2.out⟩
        · have q2' : decide ((ts.length : Int) ≤ 16) = false := by simp; omega
          go_wp2_with fail
          go_ret
          exact ⟨ret_bool (by rw [HV.out]; simp [q2]), bel_box HBC.out⟩
set_option maxRecDepth 100000 in
set_option maxHeartbeats 3200000 in
theorem rinner0 : ∀ N, InnerAt 76 N := by
  intro N
  induction N with
  | zero => intro v f ts S w A c h; rw [Tm.wt] at h; omega
  | succ N ih =>
    intro v f ts S w A c h hN hst
    have hw : f.size + Tm.wts ts ≤ N := by rw [Tm.wt] at h; omega
    have hfs : f.size ≤ 9223372036854775807 := by omega
    have hl : ts.length ≤ 9223372036854775807 := hst.2.2.1
    have hv : (Tm.mk v f ts).inner = (headOK v f ts.length && Tm.inners ts) := by rw [Tm.inner]
    have HST := Lib.hid hst
    have IH := Lib.hid ih
    have HS := Lib.hid (show Tm.wts ts ≤ N by omega)
    have HNB := Lib.hid (show N ≤ 1152921504606846976 by omega)
    have HNM := Lib.hid (fun w' => risName_any f w' hfs)
    have HVR := Lib.hid (fun w' => risVar_any f w' hfs)
    have HQ := Lib.hid (Below.refl (w.heap.size + 1) (w.alloc (.cells #[.int .i64 v, .string f, .slice A ts.length c] 24)))
    have HV : Hid (headOK v f ts.length = ((v == 0) && (decide (ts.length ≤ 16) && (nameOK f || (varOK f && (ts.length == 0)))))) := Lib.hid rfl
    rw [hv]
    clear hst hv ih h hN hw hfs
    cases d1 : (v == 0)
    · have d1' : (v != 0) = true := by simpa [bne] using d1
      have HF := Lib.hid (show headOK v f ts.length = false by rw [HV.out, d1]; rfl)
      go_enter Tryz.func76, Tryz.ntmps76
      go_wp2_with fail
      go_ret
      exact ⟨ret_bool (by rw [HF.out]; rfl), bel_box HQ.out⟩
    have d1' : (v != 0) = false := by simpa [bne] using d1
    by_cases h16 : ts.length ≤ 16
    case neg =>
      have d2 : decide ((ts.length : Int) > 16) = true := by simp; omega
      have HF := Lib.hid (show headOK v f ts.length = false by rw [HV.out, d1]; simp [h16])
      go_enter Tryz.func76, Tryz.ntmps76
      go_wp2_with fail
      go_ret
      exact ⟨ret_bool (by rw [HF.out]; rfl), bel_box HQ.out⟩
    have d2 : decide ((ts.length : Int) > 16) = false := by simp; omega
    cases q1 : nameOK f
    · have z1 := box_cell HQ.out 1 _ rfl
      cases q2 : varOK f
      · have HF := Lib.hid (show headOK v f ts.length = false by rw [HV.out, q1, q2]; simp)
        go_enter Tryz.func76, Tryz.ntmps76
        go_wp2_with fail
        refine (HNM.out _).mono ?_
        rw [show isNameB (bs f) = false from q1]
        rintro e w2 ⟨rfl, rfl⟩
        go_wp2_with fail
        refine (HVR.out _).mono ?_
        rw [show isVarB (bs f) = false from q2]
        rintro e w3 ⟨rfl, rfl⟩
        go_wp2_with fail
        go_ret
        exact ⟨ret_bool (by rw [HF.out]; rfl), bel_box HQ.out⟩
      · cases q3 : (ts.length == 0)
        · have q3' : ((ts.length : Int) == 0) = false := (show ((ts.length : Int) == 0) = (ts.length == 0) by rw [Bool.eq_iff_iff]; simp).trans q3
          have HF := Lib.hid (show headOK v f ts.length = false by rw [HV.out, q1, q2, q3]; simp)
          go_enter Tryz.func76, Tryz.ntmps76
          go_wp2_with fail
          refine (HNM.out _).mono ?_
          rw [show isNameB (bs f) = false from q1]
          rintro e w2 ⟨rfl, rfl⟩
          go_wp2_with fail
          refine (HVR.out _).mono ?_
          rw [show isVarB (bs f) = true from q2]
          rintro e w3 ⟨rfl, rfl⟩
          go_wp2_with fail
          go_ret
          exact ⟨ret_bool (by rw [HF.out]; rfl), bel_box HQ.out⟩
        · have q3' : ((ts.length : Int) == 0) = true := (show ((ts.length : Int) == 0) = (ts.length == 0) by rw [Bool.eq_iff_iff]; simp).trans q3
          have HT := Lib.hid (show (headOK v f ts.length && Tm.inners ts) = Tm.inners ts by rw [HV.out, d1, q1, q2, q3]; simp [h16])
          go_enter Tryz.func76, Tryz.ntmps76
          go_wp2_with fail
          refine (HNM.out _).mono ?_
          rw [show isNameB (bs f) = false from q1]
          rintro e w2 ⟨rfl, rfl⟩
          go_wp2_with fail
          refine (HVR.out _).mono ?_
          rw [show isVarB (bs f) = true from q2]
          rintro e w3 ⟨rfl, rfl⟩
          go_wp2_with fail
          go_loopw [3] (fun vi wl => ∃ i : Nat, i ≤ ts.length ∧ vi = .int .i64 i ∧ Tm.inners ts = Tm.inners (ts.drop i) ∧ Below (w.heap.size + 1) (w.alloc (.cells #[.int .i64 v, .string f, .slice A ts.length c] 24)) wl) (fun vi _ => ts.length - (intOf vi).toNat)
          case atStart => exact ⟨0, by omega, rfl, rfl, HQ.out⟩
          case round =>
            obtain ⟨i, hi, rfl, hk, hb⟩ := hrel
            have HK := Lib.hid hk
            have HB := Lib.hid hb
            have r0 := box_cell hb 2 _ rfl
            clear hk hb
            by_cases hlt : i < ts.length
            · obtain ⟨b, o, hA, v1, f1, us, Ai, ci, hm, hsti, k0, k1, k2⟩ := (HST.out.stay (Stay.below (bel_box HB.out))).at i hlt
              have H1 := Lib.hid hsti
              subst hA
              have hd := Tm.inners_drop ts i hlt
              rw [hm] at hd
              have hIN : Tm.wt (Tm.mk v1 f1 us) ≤ N := by
                have h1 := Tm.wts_le ts i hlt
                rw [hm] at h1
                have := HS.out; omega
              have HI := Lib.hid (And.intro hIN hlt)
              have HD := Lib.hid hd
              clear hd hIN hm hsti
              go_wp2_with fail
              refine (IH.out v1 f1 us S wr Ai ci HI.out.1 HNB.out H1.out).mono ?_
              rintro e w2 ⟨rfl, hb2⟩
              have HB2 := Lib.hid (bel_step HB.out hb2)
              clear hb2
              cases hq : Tm.inner (Tm.mk v1 f1 us)
              · have HF := Lib.hid (show Tm.inners ts = false by rw [HK.out, HD.out, hq]; rfl)
                go_wp2_with fail
                go_ret
                exact ⟨ret_bool (by rw [HT.out, HF.out]), bel_box HB2.out⟩
              · have HF := Lib.hid (show Tm.inners ts = Tm.inners (ts.drop (i + 1)) by rw [HK.out, HD.out, hq]; rfl)
                go_wp2_with fail
                go_roundw
                case rel => exact ⟨i + 1, HI.out.2, by go_num, HF.out, HB2.out⟩
                case measure => have := HI.out.2; simp [intOf]; omega
            · obtain rfl : i = ts.length := by omega
              have HF := Lib.hid (show Tm.inners ts = true by rw [HK.out, List.drop_length]; rfl)
              have d3 : decide (ts.length < ts.length) = false := by simp
              go_wp2_with fail
              go_ret
              exact ⟨ret_bool (by rw [HT.out, HF.out]), bel_box HB.out⟩
    · have HT := Lib.hid (show (headOK v f ts.length && Tm.inners ts) = Tm.inners ts by rw [HV.out, d1, q1]; simp [h16])
      go_enter Tryz.func76, Tryz.ntmps76
      go_wp2_with fail
      refine (HNM.out _).mono ?_
      rw [show isNameB (bs f) = true from q1]
      rintro e w2 ⟨rfl, rfl⟩
      go_wp2_with fail
      go_loopw [3] (fun vi wl => ∃ i : Nat, i ≤ ts.length ∧ vi = .int .i64 i ∧ Tm.inners ts = Tm.inners (ts.drop i) ∧ Below (w.heap.size + 1) (w.alloc (.cells #[.int .i64 v, .string f, .slice A ts.length c] 24)) wl) (fun vi _ => ts.length - (intOf vi).toNat)
      case atStart => exact ⟨0, by omega, rfl, rfl, HQ.out⟩
      case round =>
        obtain ⟨i, hi, rfl, hk, hb⟩ := hrel
        have HK := Lib.hid hk
        have HB := Lib.hid hb
        have r0 := box_cell hb 2 _ rfl
        clear hk hb
        by_cases hlt : i < ts.length
        · obtain ⟨b, o, hA, v1, f1, us, Ai, ci, hm, hsti, k0, k1, k2⟩ := (HST.out.stay (Stay.below (bel_box HB.out))).at i hlt
          have H1 := Lib.hid hsti
          subst hA
          have hd := Tm.inners_drop ts i hlt
          rw [hm] at hd
          have hIN : Tm.wt (Tm.mk v1 f1 us) ≤ N := by
            have h1 := Tm.wts_le ts i hlt
            rw [hm] at h1
            have := HS.out; omega
          have HI := Lib.hid (And.intro hIN hlt)
          have HD := Lib.hid hd
          clear hd hIN hm hsti
          go_wp2_with fail
          refine (IH.out v1 f1 us S wr Ai ci HI.out.1 HNB.out H1.out).mono ?_
          rintro e w2 ⟨rfl, hb2⟩
          have HB2 := Lib.hid (bel_step HB.out hb2)
          clear hb2
          cases hq : Tm.inner (Tm.mk v1 f1 us)
          · have HF := Lib.hid (show Tm.inners ts = false by rw [HK.out, HD.out, hq]; rfl)
            go_wp2_with fail
            go_ret
            exact ⟨ret_bool (by rw [HT.out, HF.out]), bel_box HB2.out⟩
          · have HF := Lib.hid (show Tm.inners ts = Tm.inners (ts.drop (i + 1)) by rw [HK.out, HD.out, hq]; rfl)
            go_wp2_with fail
            go_roundw
            case rel => exact ⟨i + 1, HI.out.2, by go_num, HF.out, HB2.out⟩
            case measure => have := HI.out.2; simp [intOf]; omega
        · obtain rfl : i = ts.length := by omega
          have HF := Lib.hid (show Tm.inners ts = true by rw [HK.out, List.drop_length]; rfl)
          have d3 : decide (ts.length < ts.length) = false := by simp
          go_wp2_with fail
          go_ret
          exact ⟨ret_bool (by rw [HT.out, HF.out]), bel_box HB.out⟩
end Go.Proofs.YtndjjnnljihmnaaGreat
