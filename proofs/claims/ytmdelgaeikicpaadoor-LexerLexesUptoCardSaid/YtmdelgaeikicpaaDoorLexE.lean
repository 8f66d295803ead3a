/- Contract of package lexer's function token. -/
import Derived.Test.YtmdelgaeikicpaaDoorLexD
import Derived.WalkLawsBesides
namespace Go.Proofs.YtmdelgaeikicpaaDoor.Lx
open Go.RowKit
set_option linter.unusedVariables false
set_option linter.unusedSimpArgs false

def tokR (x : Except Int (Int × Bs × Nat)) : Value := match x with
  | .error e => .tuple #[.agg #[.int .i64 0, .int .i64 0, .string ⟨#[]⟩], .int .i64 0, .int .i64 e]
  | .ok (k, t, n) => .tuple #[.agg #[.int .i64 k, .int .i64 0, .string ⟨t.toArray⟩], .int .i64 n, .int .i64 0]
def tokV (s : ByteArray) : Value := tokR (tokB (bs s))
theorem mk_take (s : ByteArray) (n : Nat) : (⟨((bs s).take n).toArray⟩ : ByteArray) = s.extract 0 n := by rw [← bs_take, mk_bs]
theorem head_of (s : ByteArray) (h : 0 < s.size) : bs s = s[0] :: (bs s).drop 1 := by
  have := drop_at s 0 h; simpa using this
theorem extract_size (s : ByteArray) (n : Nat) (h : n ≤ s.size) : (s.extract 0 n).size = n := by rw [ByteArray.size_extract]; omega

set_option maxHeartbeats 1600000 in
set_option maxRecDepth 100000 in
theorem token_low (s : ByteArray) (w : World) (hs : s.size ≤ 1048576) (h0 : 1 ≤ s.size) (hc : lowB s[0] = true) :
    Calls Tryd.prog 33 #[.string s] w fun e w' => e = .returned (tokV s) ∧ Below w.heap.size w w' := by
  have hle := span_le (bs s)
  rw [bs_len] at hle
  have hv : tokB (bs s) = if span (bs s) < 64 then .ok (1, (bs s).take (span (bs s)), span (bs s)) else .error 3 := by
    conv => lhs; rw [head_of s h0, tokB.eq_def]
    simp only [hc, if_true, ← head_of s h0]
  have HV := Lib.hid hv
  have HC := Lib.hid hc
  have HT := Lib.hid (mk_take s (span (bs s)))
  have hsz := extract_size s (span (bs s)) hle
  obtain ⟨n, hn⟩ : ∃ n, span (bs s) = n := ⟨_, rfl⟩
  rw [hn] at hle hsz
  have HN := Lib.hid hn
  clear hv hc hn
  have HSZ := Lib.hid hsz
  by_cases hn : n < 64
  all_goals
    go_enter Tryd.func33, Tryd.ntmps33
    go_wp2_with fail
    refine (lower_any _ _).mono ?_
    rw [HC.out]
    rintro e w' ⟨rfl, rfl⟩
    go_wp2_with fail
    refine (prefix_any s _ (by omega)).mono ?_
    rw [HN.out]
    rintro e w' ⟨rfl, rfl⟩
    go_wp2_with fail
    refine bodyPost_ret (v := tokV s) ?_ rfl ⟨rfl, ?_⟩
    · unfold tokV; rw [HV.out, HN.out]
      first | rw [if_pos hn] | rw [if_neg (by omega)]
      simp [tokR, results, Tryd.results33, go_sem]
      try exact (mk_take s n).symm
    · repeat (first | exact Below.refl _ _ | (refine Below.setCell ?_ (Nat.le_refl _) _) | (refine Below.alloc ?_ (Nat.le_refl _) _))
set_option maxHeartbeats 1600000 in
set_option maxRecDepth 100000 in
theorem token_up (s : ByteArray) (w : World) (hs : s.size ≤ 1048576) (h0 : 1 ≤ s.size) (hlo : lowB s[0] = false) (hc : upB s[0] = true) :
    Calls Tryd.prog 33 #[.string s] w fun e w' => e = .returned (tokV s) ∧ Below w.heap.size w w' := by
  have hle := span_le (bs s)
  rw [bs_len] at hle
  have hv : tokB (bs s) = if span (bs s) < 64 then .ok (2, (bs s).take (span (bs s)), span (bs s)) else .error 3 := by
    conv => lhs; rw [head_of s h0, tokB.eq_def]
    simp only [hlo, hc, if_true, Bool.false_eq_true, if_false, ← head_of s h0]
  have HV := Lib.hid hv
  have HC := Lib.hid hc
  have HL := Lib.hid hlo
  have HT := Lib.hid (mk_take s (span (bs s)))
  have hsz := extract_size s (span (bs s)) hle
  obtain ⟨n, hn⟩ : ∃ n, span (bs s) = n := ⟨_, rfl⟩
  rw [hn] at hle hsz
  have HN := Lib.hid hn
  clear hv hc hlo hn
  have HSZ := Lib.hid hsz
  by_cases hn : n < 64
  all_goals
    go_enter Tryd.func33, Tryd.ntmps33
    go_wp2_with fail
    refine (lower_any _ _).mono ?_
    rw [HL.out]
    rintro e w' ⟨rfl, rfl⟩
    go_wp2_with fail
    refine (upper_any _ _).mono ?_
    rw [HC.out]
    rintro e w' ⟨rfl, rfl⟩
    go_wp2_with fail
    refine (prefix_any s _ (by omega)).mono ?_
    rw [HN.out]
    rintro e w' ⟨rfl, rfl⟩
    go_wp2_with fail
    refine bodyPost_ret (v := tokV s) ?_ rfl ⟨rfl, ?_⟩
    · unfold tokV; rw [HV.out, HN.out]
      first | rw [if_pos hn] | rw [if_neg (by omega)]
      simp [tokR, results, Tryd.results33, go_sem]
      try exact (mk_take s n).symm
    · repeat (first | exact Below.refl _ _ | (refine Below.setCell ?_ (Nat.le_refl _) _) | (refine Below.alloc ?_ (Nat.le_refl _) _))

theorem token_ret {R : Ending → World → Prop} {tm : Array Value} {W : World} {b : Nat} {k p n e : Int} {t : ByteArray} (K : Blk W b 33 [.int .i64 k, .int .i64 p, .string t])
    (h2 : tm[2]? = some (.pointer (some ⟨b, 0, none⟩))) (h3 : tm[3]? = some (.int .i64 n)) (h4 : tm[4]? = some (.int .i64 e)) (hR : R (.returned (.tuple #[.agg #[.int .i64 k, .int .i64 p, .string t], .int .i64 n, .int .i64 e])) W) :
    bodyPost Tryd.prog Tryd.f33 R Exit.ret { tmps := tm, defers := [] } W := by
  have c0 := K.cell 0
  have c1 := K.cell 1
  have c2 := K.cell 2
  simp only [List.getElem?_cons_zero, List.getElem?_cons_succ] at c0 c1 c2
  exact bodyPost_ret (v := .tuple #[.agg #[.int .i64 k, .int .i64 p, .string t], .int .i64 n, .int .i64 e]) (by simp [results, Tryd.results33, go_sem, h2, h3, h4, c0, c1, c2]) rfl hR
theorem odd_any (s : ByteArray) (w : World) :
    Calls Tryd.prog 21 #[.string s] w fun e w' => e = .returned (.bool (oddB (bs s))) ∧ w = w' := by
  rcases Nat.eq_zero_or_pos s.size with h | h
  · exact odd_nil s w h
  · exact odd_cons s w h
theorem low_39 (c : UInt8) (h : c.toNat = 39 ∨ c.toNat = 36) : lowB c = false ∧ upB c = false := by
  simp only [lowB, upB, Bool.and_eq_false_iff, decide_eq_false_iff_not]; omega

set_option maxHeartbeats 1600000 in
set_option maxRecDepth 100000 in
theorem token_quote (s : ByteArray) (w : World) (hs : s.size ≤ 1048576) (h0 : 1 ≤ s.size) (hc : s[0].toNat = 39) :
    Calls Tryd.prog 33 #[.string s] w fun e w' => e = .returned (tokV s) ∧ Below w.heap.size w w' := by
  obtain ⟨hl, hu⟩ := low_39 _ (.inl hc)
  have hv : tokB (bs s) = match quot ((bs s).drop 1) with
      | none => .error 20
      | some (name, n) => if oddB name then .error 20 else if name.length < 64 then .ok (1, name, n + 1) else .error 3 := by
    conv => lhs; rw [head_of s h0, tokB.eq_def]
    simp only [hl, hu, hc, if_true, Bool.false_eq_true, if_false]
    rfl
  have HV := Lib.hid hv
  have HL := Lib.hid hl
  have HU := Lib.hid hu
  have e39 : ((s[0].toNat : Int) == 39) = true := by simp [hc]
  have HQ := Lib.hid (fun w => quoted_any s w (by omega) h0)
  have hfr : ∀ w' : World, Below (w.alloc (.cells #[.int .i64 0, .int .i64 0, .string ⟨#[]⟩] 33)).heap.size (w.alloc (.cells #[.int .i64 0, .int .i64 0, .string ⟨#[]⟩] 33)) w' →
      Blk w' w.heap.size 33 [.int .i64 0, .int .i64 0, .string ⟨#[]⟩] ∧ Below w.heap.size w w' := fun w' hb => by
    have h1 : Blk (w.alloc (.cells #[.int .i64 0, .int .i64 0, .string ⟨#[]⟩] 33)) w.heap.size 33 [.int .i64 0, .int .i64 0, .string ⟨#[]⟩] := Blk.new w _ _
    exact ⟨h1.below hb h1.lt, ((Below.refl _ w).alloc (Nat.le_refl _) _).trans (hb.mono (by simp))⟩
  have HFR := Lib.hid hfr
  clear hfr
  obtain ⟨q, hq⟩ : ∃ q, quot ((bs s).drop 1) = q := ⟨_, rfl⟩
  rw [hq] at hv
  cases q with
  | none =>
    have HN := Lib.hid (show quotV s = .tuple #[.string ⟨#[]⟩, .int .i64 0] by unfold quotV; rw [hq]; rfl)
    have HT := Lib.hid (show tokB (bs s) = .error 20 from hv)
    have HO := Lib.hid (odd_any ⟨#[]⟩)
    clear hv hl hu hc hq HV
    go_enter Tryd.func33, Tryd.ntmps33
    go_wp2_with fail
    refine (lower_any _ _).mono ?_
    rw [HL.out]
    rintro e w' ⟨rfl, rfl⟩
    go_wp2_with fail
    refine (upper_any _ _).mono ?_
    rw [HU.out]
    rintro e w' ⟨rfl, rfl⟩
    go_wp2_with fail
    refine (HQ.out _).mono ?_
    rw [HN.out]
    rintro e w' ⟨rfl, hb⟩
    obtain ⟨hk, hb2⟩ := HFR.out w' hb
    have c0 := hk.cell 0
    have c1 := hk.cell 1
    have c2 := hk.cell 2
    have f0 := hk.free 0
    have f1 := hk.free 1
    have f2 := hk.free 2
    simp only [List.getElem?_cons_zero, List.getElem?_cons_succ] at c0 c1 c2
    clear hb
    have HB2 := Lib.hid hb2
    clear hb2
    go_wp2_with fail
    refine (HO.out _).mono ?_
    rintro e w2 ⟨rfl, rfl⟩
    rw [show oddB (bs ⟨#[]⟩) = true from rfl]
    go_wp2_with fail
    refine bodyPost_ret (v := tokV s) ?_ rfl ⟨rfl, ?_⟩
    · unfold tokV; rw [HT.out]
      simp [tokR, results, Tryd.results33, go_sem, c0, c1, c2]
    · exact ((HB2.out.setCell (Nat.le_refl _) _).setCell (Nat.le_refl _) _).setCell (Nat.le_refl _) _
  | some p =>
    obtain ⟨name, m⟩ := p
    have HN := Lib.hid (show quotV s = .tuple #[.string ⟨name.toArray⟩, .int .i64 ((m : Int) + 1)] by unfold quotV; rw [hq]; rfl)
    have HT := Lib.hid (show tokB (bs s) = if oddB name then .error 20 else if name.length < 64 then .ok (1, name, m + 1) else .error 3 from hv)
    have HO := Lib.hid (odd_any ⟨name.toArray⟩)
    have hm := (quot_le _ _ (Nat.le_refl _) _ _ hq)
    have hm2 : m ≤ 1048576 ∧ name.length ≤ 1048576 := by
      have h3 : ((bs s).drop 1).length ≤ s.size := by rw [List.length_drop, bs_len]; omega
      omega
    obtain ⟨hm3, hm4⟩ := hm2
    have hsz : (⟨name.toArray⟩ : ByteArray).size = name.length := by simp [ByteArray.size]
    have HSZ := Lib.hid hsz
    clear hv hl hu hc hq HV hm hsz
    cases ho : oddB name
    · have HO2 := Lib.hid ho
      clear ho
      by_cases hn : name.length < 64
      all_goals
        have hn1 : (⟨name.toArray⟩ : ByteArray).size < 64 ↔ name.length < 64 := by rw [HSZ.out]
        have HN1 := Lib.hid hn1
        clear hn1
        go_enter Tryd.func33, Tryd.ntmps33
        go_wp2_with fail
        refine (lower_any _ _).mono ?_
        rw [HL.out]
        rintro e w' ⟨rfl, rfl⟩
        go_wp2_with fail
        refine (upper_any _ _).mono ?_
        rw [HU.out]
        rintro e w' ⟨rfl, rfl⟩
        go_wp2_with fail
        refine (HQ.out _).mono ?_
        rw [HN.out]
        rintro e w' ⟨rfl, hb⟩
        obtain ⟨hk, hb2⟩ := HFR.out w' hb
        have c0 := hk.cell 0
        have c1 := hk.cell 1
        have c2 := hk.cell 2
        have f0 := hk.free 0
        have f1 := hk.free 1
        have f2 := hk.free 2
        simp only [List.getElem?_cons_zero, List.getElem?_cons_succ] at c0 c1 c2
        clear hb
        have HB2 := Lib.hid hb2
        clear hb2
        go_wp2_with fail
        refine (HO.out _).mono ?_
        rintro e w2 ⟨rfl, rfl⟩
        rw [show oddB (bs ⟨name.toArray⟩) = false from HO2.out]
        go_wp2_with fail
        refine token_ret ((((((hk.set 0 _).set 1 _).set 2 _).set 0 _).set 1 _).set 2 _) rfl rfl rfl ⟨?_, ?_⟩
        · unfold tokV; rw [HT.out, if_neg (by rw [HO2.out]; exact Bool.false_ne_true)]
          first | rw [if_pos hn] | rw [if_neg (by omega)]
          rfl
        · exact (((((HB2.out.setCell (Nat.le_refl _) _).setCell (Nat.le_refl _) _).setCell (Nat.le_refl _) _).setCell (Nat.le_refl _) _).setCell (Nat.le_refl _) _).setCell (Nat.le_refl _) _
    · have HO2 := Lib.hid ho
      clear ho
      go_enter Tryd.func33, Tryd.ntmps33
      go_wp2_with fail
      refine (lower_any _ _).mono ?_
      rw [HL.out]
      rintro e w' ⟨rfl, rfl⟩
      go_wp2_with fail
      refine (upper_any _ _).mono ?_
      rw [HU.out]
      rintro e w' ⟨rfl, rfl⟩
      go_wp2_with fail
      refine (HQ.out _).mono ?_
      rw [HN.out]
      rintro e w' ⟨rfl, hb⟩
      obtain ⟨hk, hb2⟩ := HFR.out w' hb
      have c0 := hk.cell 0
      have c1 := hk.cell 1
      have c2 := hk.cell 2
      have f0 := hk.free 0
      have f1 := hk.free 1
      have f2 := hk.free 2
      simp only [List.getElem?_cons_zero, List.getElem?_cons_succ] at c0 c1 c2
      clear hb
      have HB2 := Lib.hid hb2
      clear hb2
      go_wp2_with fail
      refine (HO.out _).mono ?_
      rintro e w2 ⟨rfl, rfl⟩
      rw [show oddB (bs ⟨name.toArray⟩) = true from HO2.out]
      go_wp2_with fail
      refine bodyPost_ret (v := tokV s) ?_ rfl ⟨rfl, ?_⟩
      · unfold tokV; rw [HT.out, if_pos HO2.out]
        simp [tokR, results, Tryd.results33, go_sem, c0, c1, c2]
      · exact ((HB2.out.setCell (Nat.le_refl _) _).setCell (Nat.le_refl _) _).setCell (Nat.le_refl _) _
end Go.Proofs.YtmdelgaeikicpaaDoor.Lx
