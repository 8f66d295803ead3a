/- The law NnfSoon: formulas that double, their sizes; the walk. -/
import Derived.Test.YtndjjnnljihmnaaGmD
import Derived.Test.YtndjjnnljihmnaaGmF
namespace Go.Proofs.Ytndjjnnljihmnaa
open Go.RowKit
set_option linter.unusedVariables false
set_option linter.unusedSimpArgs false
/-- The formulas that double. -/
def Fn : Nat → Fm
  | 0 => atF 112 []
  | i + 1 => .mk 6 ⟨#[]⟩ (.mk 0 ⟨#[]⟩ []) (.mk 0 ⟨#[]⟩ []) [Fn i, atF 113 []]
def q0 : Fo × Fo := (⟨1, 3, 2⟩, ⟨2, 4, 3⟩)
def stepM (a : Fo × Fo) : Fo × Fo := ((a.2.with 4 q0.1).with 3 (a.1.with 4 q0.2), (a.1.with 4 q0.1).with 3 (a.2.with 4 q0.2))
theorem fn_atoms (p : UInt8) (h : p = 112 ∨ p = 113) : (atF p []).shape = true ∧ (atF p []).size = 3 ∧ (atF p []).depth = 2 ∧ (atF p []).meas = q0 ∧ (atF p []).wt ≤ 100 := by
  rcases h with rfl | rfl
  · exact ⟨by kernel_rfl, by kernel_rfl, by kernel_rfl, by kernel_rfl, by decide⟩
  · exact ⟨by kernel_rfl, by kernel_rfl, by kernel_rfl, by kernel_rfl, by decide⟩
theorem head_iff : headF 6 ⟨#[]⟩ (.mk 0 ⟨#[]⟩ []) (.mk 0 ⟨#[]⟩ []) 2 = true := by
  unfold headF
  rw [nil_empty, nil_none]
  rfl
theorem fn_said : ∀ i : Nat, (Fn i).shape = true ∧ (Fn i).size = 3 + 4 * i ∧ (Fn i).depth = i + 2 ∧ (Fn i).wt ≤ 100 + 200 * i
  | 0 => by
    obtain ⟨h1, h2, h3, h4, h5⟩ := fn_atoms 112 (Or.inl rfl)
    exact ⟨h1, h2, h3, h5⟩
  | i + 1 => by
    obtain ⟨h1, h2, h3, h4⟩ := fn_said i
    obtain ⟨g1, g2, g3, g4, g5⟩ := fn_atoms 113 (Or.inr rfl)
    refine ⟨?_, ?_, ?_, ?_⟩
    · rw [Fn, Fm.shape, List.length_cons, List.length_cons, List.length_nil, head_iff, Fm.shapes, Fm.shapes, Fm.shapes, h1, g1]; rfl
    · rw [Fn, Fm.size, if_neg (by decide), Fm.sizes, Fm.sizes, Fm.sizes, h2, g2]; omega
    · rw [Fn, Fm.depth, if_neg (by decide), Fm.depths, Fm.depths, Fm.depths, h3, g3]; omega
    · rw [Fn, Fm.wt, Fm.wts, Fm.wts, Fm.wts, nil_wt, nil_size]; omega
theorem fn_meas (i : Nat) : (Fn (i + 1)).meas = stepM (Fn i).meas := by
  rw [Fn, Fm.meas, Fm.measL, Fm.measL, Fm.measL, (fn_atoms 113 (Or.inr rfl)).2.2.2.1]
  rfl
theorem step3 (s d s' d' : Int) : stepM (⟨3, s, d⟩, ⟨3, s', d'⟩) = (⟨3, min (min (s' + 3 + 1) 1073741824 + min (s + 4 + 1) 1073741824 + 1) 1073741824, max (max d' 2 + 1) (max d 3 + 1) + 1⟩, ⟨3, min (min (s + 3 + 1) 1073741824 + min (s' + 4 + 1) 1073741824 + 1) 1073741824, max (max d 2 + 1) (max d' 3 + 1) + 1⟩) := rfl
theorem fn_m1 : (Fn 1).meas = (⟨3, 17, 5⟩, ⟨3, 17, 5⟩) := by rw [fn_meas, show (Fn 0).meas = q0 from (fn_atoms 112 (Or.inl rfl)).2.2.2.1]; rfl
theorem fn_small : ∀ i : Nat, i ≤ 7 → ∃ s d : Int, (Fn (i + 1)).meas = (⟨3, s, d⟩, ⟨3, s, d⟩) ∧ s = 27 * 2 ^ i - 10 ∧ d = 5 + 2 * i
  | 0, _ => ⟨17, 5, fn_m1, by decide, by decide⟩
  | i + 1, h => by
    obtain ⟨s, d, h1, h2, h3⟩ := fn_small i (by omega)
    rw [fn_meas, h1, step3]
    have hp : (2 : Int) ^ (i + 1) = 2 * 2 ^ i := by rw [Int.pow_succ]; omega
    have hi : i = 0 ∨ i = 1 ∨ i = 2 ∨ i = 3 ∨ i = 4 ∨ i = 5 ∨ i = 6 := by omega
    have hs : s ≤ 1718 ∧ 17 ≤ s := by rcases hi with rfl | rfl | rfl | rfl | rfl | rfl | rfl <;> (simp at h2; omega)
    refine ⟨_, _, rfl, ?_, ?_⟩
    · rw [hp]; omega
    · omega
theorem fn_big : ∀ i : Nat, ∃ s d s' d' : Int, (Fn (i + 9)).meas = (⟨3, s, d⟩, ⟨3, s', d'⟩) ∧ 4000 < s ∧ 4000 < s'
  | 0 => by
    obtain ⟨s, d, h1, h2, h3⟩ := fn_small 7 (by omega)
    rw [fn_meas, h1, step3]
    simp at h2
    exact ⟨_, _, _, _, rfl, by omega, by omega⟩
  | i + 1 => by
    obtain ⟨s, d, s', d', h1, h2, h3⟩ := fn_big i
    rw [show i + 1 + 9 = (i + 9) + 1 by omega, fn_meas, h1, step3]
    exact ⟨_, _, _, _, rfl, by omega, by omega⟩
/-- What the law asks: formulas up to the eighth are told; the others are refused as too great. -/
theorem fn_nnf (i : Nat) (h : i ≤ 55) : (i ≤ 8 → (Fn i).nnfE = 0) ∧ (8 < i → (Fn i).nnfE = 3) := by
  obtain ⟨h1, h2, h3, h4⟩ := fn_said i
  have hr : (Fn i).rightE = 0 := right_of h1 (by omega) (by omega)
  refine ⟨fun h5 => ?_, fun h5 => ?_⟩
  · unfold Fm.nnfE
    rw [if_pos hr]
    cases i with
    | zero => rw [show (Fn 0).meas = q0 from (fn_atoms 112 (Or.inl rfl)).2.2.2.1]; rfl
    | succ i =>
      obtain ⟨s, d, g1, g2, g3⟩ := fn_small i (by omega)
      have hi : i = 0 ∨ i = 1 ∨ i = 2 ∨ i = 3 ∨ i = 4 ∨ i = 5 ∨ i = 6 ∨ i = 7 := by omega
      have hs : s ≤ 4000 := by rcases hi with rfl | rfl | rfl | rfl | rfl | rfl | rfl | rfl <;> (simp at g2; omega)
      rw [g1]
      simp only
      rw [if_neg (by omega), if_neg (by omega)]
  · unfold Fm.nnfE
    rw [if_pos hr]
    obtain ⟨s, d, s', d', g1, g2, g3⟩ := fn_big (i - 9)
    rw [show i - 9 + 9 = i by omega] at g1
    rw [g1]
    simp only
    rw [if_pos g2]
theorem fn_step {SX : Nat → Prop} {w' : World} {gA : Nat} {k1 : Int} {n1 : ByteArray} {vl1 : Int} {fl1 : ByteArray} {al1 : List Tm} {vr1 : Int} {fr1 : ByteArray} {ar1 : List Tm} {ts1 : List Fm} {Al1 : Option Addr} {cl1 : Nat} {Ar1 : Option Addr} {cr1 : Nat} {A1 : Option Addr} {c1 : Nat} (hb : Blk w' gA 27 [.int .i64 k1, .string n1, .int .i64 vl1, .string fl1, .slice Al1 al1.length cl1, .int .i64 vr1, .string fr1, .slice Ar1 ar1.length cr1, .slice A1 ts1.length c1, .int .i64 1, .string ⟨#[]⟩, .int .i64 0, .string (⟨#[64]⟩ ++ ⟨#[113]⟩), .slice none 0 0, .int .i64 0, .string truS, .slice none 0 0, .slice none 0 0]) (hS : SX gA) (h : ST SX w' Al1 al1.length cl1 al1 ∧ ST SX w' Ar1 ar1.length cr1 ar1 ∧ SF SX w' A1 ts1.length c1 ts1) : SF SX w' (some ⟨gA, 0, none⟩) 2 2 [(Fm.mk k1 n1 (.mk vl1 fl1 al1) (.mk vr1 fr1 ar1) ts1), atF 113 []] :=
  SF.rf2 (RF.shut k1 n1 vl1 vr1 fl1 fr1 h.1 h.2.1 h.2.2) (atF_read 113 (ST.nil _ _ _)) hb hS
set_option maxRecDepth 100000 in
set_option maxHeartbeats 12800000 in
theorem soon_any (n : Int) (w : World) : Calls Try.prog 4 #[.int .i64 n] w fun e w' => e = .returned (.bool true) ∧ Below w.heap.size w w' := by
  have HB0 := Lib.hid (Below.refl w.heap.size w)
  by_cases h0 : n < 0
  · have q1 : decide (n < 0) = true := by simp; omega
    go_enter Try.func4, Try.ntmps4
    go_wp2_with fail
    refine (alive_any _).mono ?_
    rintro e w9 ⟨rfl, hb9⟩
    have hB := bel_go HB0.out hb9
    go_wp2_with fail
    exact bodyPost_ret (v := .bool true) (by simp [results, Try.results4]) rfl ⟨rfl, hB⟩
  have q1 : decide (n < 0) = false := by simp; omega
  by_cases h1 : 55 < n
  · have q2 : decide (n > 55) = true := by simp; omega
    have q2x : decide (55 < n) = true := by simp; omega
    go_enter Try.func4, Try.ntmps4
    go_wp2_with fail
    refine (alive_any _).mono ?_
    rintro e w9 ⟨rfl, hb9⟩
    have hB := bel_go HB0.out hb9
    go_wp2_with fail
    exact bodyPost_ret (v := .bool true) (by simp [results, Try.results4]) rfl ⟨rfl, hB⟩
  have q2 : decide (n > 55) = false := by simp; omega
  have q2x : decide (55 < n) = false := by simp; omega
  obtain ⟨m, rfl⟩ : ∃ m : Nat, n = m := ⟨n.toNat, by omega⟩
  have hm : m ≤ 55 := by omega
  clear h0 h1
  go_enter Try.func4, Try.ntmps4
  go_wp2_with fail
  refine (pred_any ⟨#[112]⟩ (by decide) none 0 0 _).mono ?_
  rintro e w2 ⟨rfl, hb2⟩
  go_upto_region 4 with (fail)
  have hs2 := hb2.size
  have HB2 := Lib.hid (Below.alloc (bel_go HB0.out hb2) hs2 (.cells #[.int .i64 1, .string ⟨#[]⟩, .int .i64 0, .string (⟨#[64]⟩ ++ ⟨#[112]⟩), .slice none 0 0, .int .i64 0, .string truS, .slice none 0 0, .slice none 0 0] 27))
  have BF0 := Lib.hid (Blk.new w2 27 [.int .i64 1, .string ⟨#[]⟩, .int .i64 0, .string (⟨#[64]⟩ ++ ⟨#[112]⟩), .slice none 0 0, .int .i64 0, .string truS, .slice none 0 0, .slice none 0 0])
  simp only [List.toArray] at BF0
  generalize hgF : w2.heap.size = gF at *
  have HGF := Lib.hid hs2
  generalize hW2 : w2.alloc (.cells #[.int .i64 1, .string ⟨#[]⟩, .int .i64 0, .string (⟨#[64]⟩ ++ ⟨#[112]⟩), .slice none 0 0, .int .i64 0, .string truS, .slice none 0 0, .slice none 0 0] 27) = W2 at *
  clear hW2 hb2
  go_wp2_with fail
  go_loopw [4] (fun vi wl => ∃ i : Nat, ∃ gk1 gn1 gvl1 gfl1 gal1 gvr1 gfr1 gar1 gts1 gAl1 gcl1 gAr1 gcr1 gA1 gc1, i ≤ m ∧ vi = .int .i64 i ∧ Fn i = (Fm.mk gk1 gn1 (.mk gvl1 gfl1 gal1) (.mk gvr1 gfr1 gar1) gts1) ∧ Blk wl gF 27 [.int .i64 gk1, .string gn1, .int .i64 gvl1, .string gfl1, .slice gAl1 gal1.length gcl1, .int .i64 gvr1, .string gfr1, .slice gAr1 gar1.length gcr1, .slice gA1 gts1.length gc1] ∧ (ST (fun b => w.heap.size ≤ b ∧ b ≠ gF) wl gAl1 gal1.length gcl1 gal1 ∧ ST (fun b => w.heap.size ≤ b ∧ b ≠ gF) wl gAr1 gar1.length gcr1 gar1 ∧ SF (fun b => w.heap.size ≤ b ∧ b ≠ gF) wl gA1 gts1.length gc1 gts1) ∧ Below w.heap.size w wl) (fun vi _ => m - (intOf vi).toNat)
  case atStart => exact ⟨0, 1, ⟨#[]⟩, 0, ⟨#[64]⟩ ++ ⟨#[112]⟩, [], 0, truS, [], [], none, 0, none, 0, none, 0, Nat.zero_le _, rfl, rfl, BF0.out, ⟨ST.nil _ _ _, ST.nil _ _ _, SF.nil _ _ _⟩, HB2.out⟩
  case round =>
    obtain ⟨i, gk1, gn1, gvl1, gfl1, gal1, gvr1, gfr1, gar1, gts1, gAl1, gcl1, gAr1, gcr1, gA1, gc1, hi, rfl, hf, hbf, hr, hbl⟩ := hrel
    have HF := Lib.hid hf
    have BF := Lib.hid hbf
    have GR := Lib.hid hr
    have HBL := Lib.hid hbl
    clear hf hbf hr hbl
    by_cases hlt : i < m
    · have HLT := Lib.hid hlt
      have d1 : decide ((i : Int) < (m : Int)) = true := by simp; omega
      have HQ0 := Lib.hid (bel_drew1 wr)
      have hlF := BF.out.lt
      have tk := BF.out.nine; have z0 := tk.c0; have z1 := tk.c1; have z2 := tk.c2; have z3 := tk.c3; have z4 := tk.c4; have z5 := tk.c5; have z6 := tk.c6; have z7 := tk.c7; have z8 := tk.c8; clear tk
      go_wp2_with fail
      go_region_law (first | (go_simp; go_at_call 10; refine (pred_any ⟨#[113]⟩ (by decide) none 0 0 _).mono ?_; rintro e w9 ⟨rfl, hb9⟩; have HQ1 := Lib.hid (bel_go HQ0.out hb9); clear hb9; have BN := Lib.hid (BF.out.below HQ1.out BF.out.lt); have hlN := BN.out.lt; have hna := Nat.ne_of_lt hlN; have hnb := hna.symm; have tk := BN.out.nine; have z0 := tk.c0; have z1 := tk.c1; have z2 := tk.c2; have z3 := tk.c3; have z4 := tk.c4; have z5 := tk.c5; have z6 := tk.c6; have z7 := tk.c7; have z8 := tk.c8; clear tk; have tk := BN.out.free9; have fz0 := tk.c0; have fz1 := tk.c1; have fz2 := tk.c2; have fz3 := tk.c3; have fz4 := tk.c4; have fz5 := tk.c5; have fz6 := tk.c6; have fz7 := tk.c7; have fz8 := tk.c8; clear tk))
      all_goals
        go_wp2_with fail
        have hsz9 : w.heap.size ≤ w9.heap.size := (bel_go HBL.out HQ1.out).size
        have hgs := (show w.heap.size ≤ gF from HGF.out)
        have GX := r3 GR.out (((Stay.below HQ1.out).trans (Stay.set9 (g := gF) (fun h => h.2 rfl) (.int .i64 6) (.string ⟨#[]⟩) (.int .i64 0) (.string ⟨#[]⟩) (.slice none 0 0) (.int .i64 0) (.string ⟨#[]⟩) (.slice none 0 0) (.slice (some ⟨w9.heap.size, 0, none⟩) 2 2))).trans (Stay.al (.cells #[.int .i64 gk1, .string gn1, .int .i64 gvl1, .string gfl1, .slice gAl1 gal1.length gcl1, .int .i64 gvr1, .string gfr1, .slice gAr1 gar1.length gcr1, .slice gA1 gts1.length gc1, .int .i64 1, .string ⟨#[]⟩, .int .i64 0, .string (⟨#[64]⟩ ++ ⟨#[113]⟩), .slice none 0 0, .int .i64 0, .string truS, .slice none 0 0, .slice none 0 0] 27)))
        have BFX := (blk9 BN.out (.int .i64 6) (.string ⟨#[]⟩) (.int .i64 0) (.string ⟨#[]⟩) (.slice none 0 0) (.int .i64 0) (.string ⟨#[]⟩) (.slice none 0 0) (.slice (some ⟨w9.heap.size, 0, none⟩) 2 2)).alloc (.cells #[.int .i64 gk1, .string gn1, .int .i64 gvl1, .string gfl1, .slice gAl1 gal1.length gcl1, .int .i64 gvr1, .string gfr1, .slice gAr1 gar1.length gcr1, .slice gA1 gts1.length gc1, .int .i64 1, .string ⟨#[]⟩, .int .i64 0, .string (⟨#[64]⟩ ++ ⟨#[113]⟩), .slice none 0 0, .int .i64 0, .string truS, .slice none 0 0, .slice none 0 0] 27)
        have HBX := (bel9 (bel_go HBL.out HQ1.out) hgs (.int .i64 6) (.string ⟨#[]⟩) (.int .i64 0) (.string ⟨#[]⟩) (.slice none 0 0) (.int .i64 0) (.string ⟨#[]⟩) (.slice none 0 0) (.slice (some ⟨w9.heap.size, 0, none⟩) 2 2))
        have HBX2 := HBX.alloc HBX.size (.cells #[.int .i64 gk1, .string gn1, .int .i64 gvl1, .string gfl1, .slice gAl1 gal1.length gcl1, .int .i64 gvr1, .string gfr1, .slice gAr1 gar1.length gcr1, .slice gA1 gts1.length gc1, .int .i64 1, .string ⟨#[]⟩, .int .i64 0, .string (⟨#[64]⟩ ++ ⟨#[113]⟩), .slice none 0 0, .int .i64 0, .string truS, .slice none 0 0, .slice none 0 0] 27)
        have HSF := fn_step (SX := (fun b => w.heap.size ≤ b ∧ b ≠ gF)) (Blk.new' _ w9.heap.size 27 [.int .i64 gk1, .string gn1, .int .i64 gvl1, .string gfl1, .slice gAl1 gal1.length gcl1, .int .i64 gvr1, .string gfr1, .slice gAr1 gar1.length gcr1, .slice gA1 gts1.length gc1, .int .i64 1, .string ⟨#[]⟩, .int .i64 0, .string (⟨#[64]⟩ ++ ⟨#[113]⟩), .slice none 0 0, .int .i64 0, .string truS, .slice none 0 0, .slice none 0 0] (by simp)) ⟨hsz9, Ne.symm hna⟩ GX
        have HX := Lib.hid (And.intro BFX (And.intro HSF HBX2))
        clear BFX HSF HBX2 HBX GX z0 z1 z2 z3 z4 z5 z6 z7 z8 fz0 fz1 fz2 fz3 fz4 fz5 fz6 fz7 fz8
        go_roundw
        case rel => exact ⟨i + 1, 6, ⟨#[]⟩, 0, ⟨#[]⟩, [], 0, ⟨#[]⟩, [], [(Fm.mk gk1 gn1 (.mk gvl1 gfl1 gal1) (.mk gvr1 gfr1 gar1) gts1), atF 113 []], none, 0, none, 0, some ⟨w9.heap.size, 0, none⟩, 2, HLT.out, by go_num, by rw [Fn, HF.out], HX.out.1, ⟨ST.nil _ _ _, ST.nil _ _ _, HX.out.2.1⟩, HX.out.2.2⟩
        case measure => have := HLT.out; simp [intOf]; omega
    · obtain rfl : i = m := by omega
      have d1 : decide ((i : Int) < (i : Int)) = false := by simp
      have hwt := (fn_said i).2.2.2
      have hsd := fn_nnf i hm
      rw [HF.out] at hwt hsd
      have HNN := Lib.hid (nnf_any gk1 gn1 gvl1 gfl1 gal1 gvr1 gfr1 gar1 gts1 gAl1 gcl1 gAr1 gcr1 gA1 gc1 _ wr (by omega) GR.out.1 GR.out.2.1 GR.out.2.2)
      have HS8 : Hid (i ≤ 8 → (Fm.mk gk1 gn1 (.mk gvl1 gfl1 gal1) (.mk gvr1 gfr1 gar1) gts1).nnfR.shape = true ∧ (Fm.mk gk1 gn1 (.mk gvl1 gfl1 gal1) (.mk gvr1 gfr1 gar1) gts1).nnfR.is = true ∧ (Fm.mk gk1 gn1 (.mk gvl1 gfl1 gal1) (.mk gvr1 gfr1 gar1) gts1).nnfR.wt ≤ 1152921504606846976) := Lib.hid (fun h8 => by
        obtain ⟨s1, s2, s3, s4, s5, s6, s7⟩ := nnf_said (M := 20000) (hsd.1 h8) (by omega)
        have h9 := Fm.wt_le _ s1 s5
        have := Nat.mul_le_mul s3 (Nat.le_refl (20000 + 3))
        exact ⟨s1, s2, by omega⟩)
      have HS9 : Hid (8 < i → (Fm.mk gk1 gn1 (.mk gvl1 gfl1 gal1) (.mk gvr1 gfr1 gar1) gts1).nnfR = Fm.c 0) := Lib.hid (fun h8 => by unfold Fm.nnfR; rw [if_neg (by rw [hsd.2 h8]; decide)])
      have HE := Lib.hid hsd
      clear hwt hsd
      generalize Fm.nnfR (Fm.mk gk1 gn1 (.mk gvl1 gfl1 gal1) (.mk gvr1 gfr1 gar1) gts1) = res at *
      generalize Fm.nnfE (Fm.mk gk1 gn1 (.mk gvl1 gfl1 gal1) (.mk gvr1 gfr1 gar1) gts1) = en at *
      have tk := BF.out.nine; have z0 := tk.c0; have z1 := tk.c1; have z2 := tk.c2; have z3 := tk.c3; have z4 := tk.c4; have z5 := tk.c5; have z6 := tk.c6; have z7 := tk.c7; have z8 := tk.c8; clear tk
      go_wp2_with fail
      refine (HNN.out).mono ?_
      rintro e wv ⟨hres, hbv⟩
      obtain ⟨gk2, gn2, gvl2, gfl2, gal2, gvr2, gfr2, gar2, gts2, gAl2, gcl2, gAr2, gcr2, gA2, gc2, hg2, rfl, gr2⟩ := hres.all
      clear hres
      go_upto_region 9 with (fail)
      have hBv := bel_go HBL.out hbv
      have HB2 := Lib.hid (Below.alloc hBv hBv.size (.cells #[.int .i64 gk2, .string gn2, .int .i64 gvl2, .string gfl2, .slice gAl2 gal2.length gcl2, .int .i64 gvr2, .string gfr2, .slice gAr2 gar2.length gcr2, .slice gA2 gts2.length gc2] 27))
      have GR2 := Lib.hid (r3 gr2 (Stay.al (.cells #[.int .i64 gk2, .string gn2, .int .i64 gvl2, .string gfl2, .slice gAl2 gal2.length gcl2, .int .i64 gvr2, .string gfr2, .slice gAr2 gar2.length gcr2, .slice gA2 gts2.length gc2] 27)))
      have B2 := Lib.hid (Blk.new wv 27 [.int .i64 gk2, .string gn2, .int .i64 gvl2, .string gfl2, .slice gAl2 gal2.length gcl2, .int .i64 gvr2, .string gfr2, .slice gAr2 gar2.length gcr2, .slice gA2 gts2.length gc2])
      have HG2 := Lib.hid hg2
      simp only [List.toArray] at B2
      generalize hgz : wv.heap.size = g4 at *
      generalize hWz : wv.alloc (.cells #[.int .i64 gk2, .string gn2, .int .i64 gvl2, .string gfl2, .slice gAl2 gal2.length gcl2, .int .i64 gvr2, .string gfr2, .slice gAr2 gar2.length gcr2, .slice gA2 gts2.length gc2] 27) = W4 at *
      clear hgz hWz hbv hBv gr2 hg2
      clear z0 z1 z2 z3 z4 z5 z6 z7 z8 HNN BF HF GR HBL
      by_cases h8 : i ≤ 8
      · obtain rfl : en = 0 := HE.out.1 h8
        obtain ⟨s1, s2, s3⟩ := HS8.out h8
        rw [HG2.out] at s1 s2 s3
        have HI := Lib.hid (ris0 1152921504606846976 gk2 gn2 gvl2 gfl2 gal2 gvr2 gfr2 gar2 gts2 All W4 gAl2 gcl2 gAr2 gcr2 gA2 gc2 s3 (Nat.le_refl _) s1 GR2.out.1 GR2.out.2.1 GR2.out.2.2)
        rw [s2] at HI
        clear s1 s2 s3 HS8 HS9 HE HG2
        have q3 : ((0 : Int) != 0) = false := rfl
        have q4 : decide ((i : Int) < 11) = true := by simp; omega
        have tk := B2.out.nine; have m0 := tk.c0; have m1 := tk.c1; have m2 := tk.c2; have m3 := tk.c3; have m4 := tk.c4; have m5 := tk.c5; have m6 := tk.c6; have m7 := tk.c7; have m8 := tk.c8; clear tk
        go_wp2_with fail
        refine HI.out.mono ?_
        rintro e w8 ⟨rfl, hb8⟩
        have HB8 := Lib.hid (bel_go HB2.out hb8)
        clear hb8 m0 m1 m2 m3 m4 m5 m6 m7 m8
        go_wp2_with fail
        refine (alive_any _).mono ?_
        rintro e w9 ⟨rfl, hb9⟩
        have hB := bel_go HB8.out hb9
        go_wp2_with fail
        exact bodyPost_ret (v := .bool true) (by simp [results, Try.results4]) rfl ⟨rfl, hB⟩
      · obtain rfl : en = 3 := HE.out.2 (by omega)
        have hz : (Fm.mk gk2 gn2 (.mk gvl2 gfl2 gal2) (.mk gvr2 gfr2 gar2) gts2) = Fm.c 0 := HG2.out.symm.trans (HS9.out (by omega))
        have hsm := rfsame _ gk2 gn2 gvl2 gfl2 gal2 gvr2 gfr2 gar2 gts2 0 ⟨#[]⟩ 0 ⟨#[]⟩ [] 0 ⟨#[]⟩ [] [] All All W4 gAl2 gcl2 gAr2 gcr2 gA2 gc2 none 0 none 0 none 0 (Nat.le_refl _) GR2.out.1 GR2.out.2.1 GR2.out.2.2 (ST.nil _ _ _) (ST.nil _ _ _) (SF.nil _ _ _)
        rw [show Fm.same (Fm.mk gk2 gn2 (.mk gvl2 gfl2 gal2) (.mk gvr2 gfr2 gar2) gts2) (.mk 0 ⟨#[]⟩ (.mk 0 ⟨#[]⟩ []) (.mk 0 ⟨#[]⟩ []) []) = true by rw [hz]; exact Fm.same_refl _] at hsm
        have HSM := Lib.hid hsm
        clear hsm hz HG2 GR2 HS8 HS9 HE
        have q3 : ((3 : Int) != 0) = true := rfl
        have q4 : decide ((i : Int) > 7) = true := by simp; omega
        have q4x : decide (7 < (i : Int)) = true := by simp; omega
        have tk := B2.out.nine; have m0 := tk.c0; have m1 := tk.c1; have m2 := tk.c2; have m3 := tk.c3; have m4 := tk.c4; have m5 := tk.c5; have m6 := tk.c6; have m7 := tk.c7; have m8 := tk.c8; clear tk
        go_wp2_with fail
        refine HSM.out.mono ?_
        rintro e w8 ⟨rfl, hb8⟩
        have HB8 := Lib.hid (bel_go HB2.out hb8)
        clear hb8 HSM m0 m1 m2 m3 m4 m5 m6 m7 m8
        go_wp2_with fail
        refine (alive_any _).mono ?_
        rintro e w9 ⟨rfl, hb9⟩
        have hB := bel_go HB8.out hb9
        go_wp2_with fail
        exact bodyPost_ret (v := .bool true) (by simp [results, Try.results4]) rfl ⟨rfl, hB⟩
end Go.Proofs.Ytndjjnnljihmnaa
