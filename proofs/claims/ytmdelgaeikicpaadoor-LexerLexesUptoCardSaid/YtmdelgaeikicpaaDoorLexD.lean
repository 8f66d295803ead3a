/- Contract of package lexer's function quoted. -/
import Derived.Test.YtmdelgaeikicpaaDoorLexC
namespace Go.Proofs.YtmdelgaeikicpaaDoor.Lx
open Go.RowKit
set_option linter.unusedVariables false
set_option linter.unusedSimpArgs false

theorem quot_end : quot [] = none := by rw [quot.eq_def]
theorem quot_close (c : UInt8) (r : Bs) (h : c.toNat = 39) : quot (c :: r) = some ([], 1) := by rw [quot.eq_def]; simp [h]
theorem quot_bs1 (c : UInt8) (h : c.toNat = 92) : quot [c] = none := by rw [quot.eq_def]; simp [h]
theorem quot_bad (c d : UInt8) (r : Bs) (h : c.toNat = 92) (h1 : d.toNat ≠ 39) (h2 : d.toNat ≠ 92) : quot (c :: d :: r) = none := by rw [quot.eq_def]; simp [h, h1, h2]
theorem quot_esc (c d : UInt8) (r : Bs) (h : c.toNat = 92) (h1 : d.toNat = 39 ∨ d.toNat = 92) : quot (c :: d :: r) = (quot r).map fun p => (d :: p.1, p.2 + 2) := by
  rw [quot.eq_def]; simp only [h, h1]; simp
theorem quot_odd (c : UInt8) (r : Bs) (h : c.toNat ≠ 39) (h1 : c.toNat ≠ 92) (h2 : okB c = false) : quot (c :: r) = none := by rw [quot.eq_def]; simp [h, h1, h2]
theorem quot_step (c : UInt8) (r : Bs) (h : c.toNat ≠ 39) (h1 : c.toNat ≠ 92) (h2 : okB c = true) : quot (c :: r) = (quot r).map fun p => (c :: p.1, p.2 + 1) := by rw [quot.eq_def]; simp [h, h1, h2]

def quotR (o : Option (Bs × Nat)) : Value := match o with
  | none => .tuple #[.string ⟨#[]⟩, .int .i64 0]
  | some (n, m) => .tuple #[.string ⟨n.toArray⟩, .int .i64 ((m : Int) + 1)]
/-- What holds at the head of the loop: k bytes are gone by, l is gathered. -/
def QRel (s : ByteArray) (k : Nat) (l : Bs) : Prop := quot ((bs s).drop 1) = (quot ((bs s).drop k)).map fun p => (l ++ p.1, p.2 + (k - 1))
theorem QRel.start (s : ByteArray) : QRel s 1 [] := by
  unfold QRel; cases quot ((bs s).drop 1) <;> simp
theorem byteCells_snoc (l : Bs) (c : UInt8) : Lib.byteCells (l ++ [c]) = Lib.byteCells l ++ [.int .u8 c.toNat] := by simp [Lib.byteCells]
theorem drop_at (s : ByteArray) (k : Nat) (h : k < s.size) : (bs s).drop k = s[k] :: (bs s).drop (k + 1) := by
  rw [List.drop_eq_getElem_cons (by rw [bs_len]; exact h)]; rfl
theorem QRel.close {s : ByteArray} {k : Nat} {l : Bs} (h : QRel s k l) (hk : k < s.size) (h1 : 1 ≤ k) (hc : s[k].toNat = 39) : quot ((bs s).drop 1) = some (l, k) := by
  unfold QRel at h; rw [h, drop_at s k hk, quot_close _ _ hc]; simp; omega
theorem QRel.none {s : ByteArray} {k : Nat} {l : Bs} (h : QRel s k l) (hq : quot ((bs s).drop k) = none) : quot ((bs s).drop 1) = none := by
  unfold QRel at h; rw [h, hq]; rfl
theorem QRel.step {s : ByteArray} {k : Nat} {l : Bs} (h : QRel s k l) (hk : k < s.size) (h1 : 1 ≤ k) (hc : s[k].toNat ≠ 39) (hc2 : s[k].toNat ≠ 92) (ho : okB s[k] = true) : QRel s (k + 1) (l ++ [s[k]]) := by
  unfold QRel at *; rw [h, drop_at s k hk, quot_step _ _ hc hc2 ho]
  cases quot ((bs s).drop (k + 1)) <;> simp; omega
theorem QRel.esc {s : ByteArray} {k : Nat} {l : Bs} (h : QRel s k l) (hk : k + 1 < s.size) (h1 : 1 ≤ k) (hc : s[k].toNat = 92) (hd : s[k + 1].toNat = 39 ∨ s[k + 1].toNat = 92) : QRel s (k + 2) (l ++ [s[k + 1]]) := by
  unfold QRel at *; rw [h, drop_at s k (by omega), drop_at s (k + 1) hk, quot_esc _ _ _ hc hd]
  cases quot ((bs s).drop (k + 1 + 1)) <;> simp; omega

def quotV (s : ByteArray) : Value := quotR (quot ((bs s).drop 1))
set_option maxHeartbeats 1600000 in
set_option maxRecDepth 100000 in
theorem quoted_any (s : ByteArray) (w : World) (hs : s.size ≤ 1048577) (h0 : 1 ≤ s.size) :
    Calls Tryd.prog 41 #[.string s] w fun e w' => e = .returned (quotV s) ∧ Below w.heap.size w w' := by
  go_enter Tryd.func41, Tryd.ntmps41
  go_wp2
  obtain ⟨B, hB⟩ : ∃ B, B = w.heap.size := ⟨_, rfl⟩
  have hb0 : Lib.IsBuilder 67 5 B B [] (w.alloc (.cells #[.pointer none, .slice none 0 0] 67)) := by rw [hB]; exact Lib.fresh_isBuilder _ _ w
  have hbel0 : Below B w (w.alloc (.cells #[.pointer none, .slice none 0 0] 67)) := by rw [hB]; exact (Below.refl _ _).alloc (Nat.le_refl _) _
  rw [← hB]
  have HB := Lib.hid hB
  clear hB
  generalize w.alloc (.cells #[.pointer none, .slice none 0 0] 67) = w0 at *
  go_loopw [5] (fun i wr => ∃ (k : Nat) (l : Bs), 1 ≤ k ∧ k ≤ s.size ∧ i = .int .i64 k ∧ l.length ≤ k ∧ Lib.IsBuilder 67 5 B B (Lib.byteCells l) wr ∧ Below B w wr ∧ QRel s k l) (fun i _ => s.size - (intOf i).toNat)
  case atStart => exact ⟨1, [], Nat.le_refl _, h0, rfl, by simp, hb0, hbel0, QRel.start s⟩
  case round =>
    obtain ⟨k, l, hk1, hk, rfl, hll, hbu, hbel, hq⟩ := hrel
    have HQ := Lib.hid hq
    have HU := Lib.hid hbu
    have HL := Lib.hid hbel
    have hBs : B ≤ wr.heap.size := by have := hbel.size; have := HB.out; omega
    have hlc : (Lib.byteCells l).length + 1 ≤ 140737488355328 := by simp [Lib.byteCells]; omega
    have HLC := Lib.hid hlc
    clear hq hbu hbel hlc hb0 hbel0
    by_cases hlt : k < s.size
    · by_cases c39 : s[k].toNat = 39
      · have hz := HQ.out.close hlt hk1 c39
        have HZ := Lib.hid hz
        have e39 : ((s[k].toNat : Int) == 39) = true := by simp [c39]
        have E := Lib.hid c39
        clear hz c39
        go_wp2_with (go_at_call 50; refine (Tryd.Builder_String_any B B l _ HU.out hBs).mono ?_; rintro e w' ⟨rfl, hb2⟩)
        go_ret2
        unfold quotV; rw [HZ.out, ← HB.out]
        exact ⟨rfl, HL.out.trans hb2⟩
      · have e39 : ((s[k].toNat : Int) == 39) = false := by rw [beq_eq_false_iff_ne]; omega
        by_cases c92 : s[k].toNat = 92
        · have e92 : ((s[k].toNat : Int) == 92) = true := by simp [c92]
          have C92 := Lib.hid c92
          clear c92 c39
          by_cases hk2 : k + 1 < s.size
          · have e2 : (((k : Int) + 1) == (s.size : Int)) = false := by rw [beq_eq_false_iff_ne]; omega
            by_cases hd : s[k + 1].toNat = 39 ∨ s[k + 1].toNat = 92
            · have HZ := Lib.hid (HQ.out.esc hk2 hk1 C92.out hd)
              have HD := Lib.hid hd
              have hw := Tryd.builder_WriteByte B B (Lib.byteCells l) s[k + 1].toNat wr HU.out HLC.out hBs
              have HW := Lib.hid hw
              clear hw
              rcases hd with hd | hd
              · have d1 : ((s[k + 1].toNat : Int) == 39) = true := by simp [hd]
                have d2 : ((s[k + 1].toNat : Int) != 39) = false := by simp [hd]
                clear hd
                go_wp2_with (go_at_call 52; refine HW.out.mono ?_; rintro e w' ⟨rfl, hu2, hb2⟩)
                have HB2 := Lib.hid (HL.out.trans hb2)
                have HU2 := Lib.hid hu2
                clear hb2 hu2
                go_roundw
                case rel => exact ⟨k + 2, l ++ [s[k + 1]], by omega, by omega, by go_num, by simp; omega, by rw [byteCells_snoc]; exact .inr HU2.out, HB2.out, HZ.out⟩
                case measure => simp [intOf]; omega
              · have d1 : ((s[k + 1].toNat : Int) == 39) = false := by rw [beq_eq_false_iff_ne]; omega
                have d2 : ((s[k + 1].toNat : Int) != 39) = true := by rw [bne_iff_ne]; omega
                have d3 : ((s[k + 1].toNat : Int) == 92) = true := by simp [hd]
                have d4 : ((s[k + 1].toNat : Int) != 92) = false := by simp [hd]
                clear hd
                go_wp2_with (go_at_call 52; refine HW.out.mono ?_; rintro e w' ⟨rfl, hu2, hb2⟩)
                have HB2 := Lib.hid (HL.out.trans hb2)
                have HU2 := Lib.hid hu2
                clear hb2 hu2
                go_roundw
                case rel => exact ⟨k + 2, l ++ [s[k + 1]], by omega, by omega, by go_num, by simp; omega, by rw [byteCells_snoc]; exact .inr HU2.out, HB2.out, HZ.out⟩
                case measure => simp [intOf]; omega
            · have hd1 : s[k + 1].toNat ≠ 39 := fun h => hd (.inl h)
              have hd2 : s[k + 1].toNat ≠ 92 := fun h => hd (.inr h)
              have hz : quot ((bs s).drop 1) = none := HQ.out.none (by rw [drop_at s k hlt, drop_at s (k + 1) hk2, quot_bad _ _ _ C92.out hd1 hd2])
              have HZ := Lib.hid hz
              have d1 : ((s[k + 1].toNat : Int) == 39) = false := by rw [beq_eq_false_iff_ne]; omega
              have d2 : ((s[k + 1].toNat : Int) != 39) = true := by rw [bne_iff_ne]; omega
              have d3 : ((s[k + 1].toNat : Int) == 92) = false := by rw [beq_eq_false_iff_ne]; omega
              have d4 : ((s[k + 1].toNat : Int) != 92) = true := by rw [bne_iff_ne]; omega
              clear hz hd hd1 hd2
              go_wp2
              go_ret2
              unfold quotV; rw [HZ.out, ← HB.out]
              exact ⟨rfl, HL.out⟩
          · have hk3 : k + 1 = s.size := by omega
            have e2 : (((k : Int) + 1) == (s.size : Int)) = true := by rw [beq_iff_eq]; omega
            have hz : quot ((bs s).drop 1) = none := HQ.out.none (by
              rw [drop_at s k hlt, List.drop_eq_nil_of_le (by rw [bs_len]; omega), quot_bs1 _ C92.out])
            have HZ := Lib.hid hz
            clear hz hk3
            go_wp2
            go_ret2
            unfold quotV; rw [HZ.out, ← HB.out]
            exact ⟨rfl, HL.out⟩
        · have e92 : ((s[k].toNat : Int) == 92) = false := by rw [beq_eq_false_iff_ne]; omega
          have C39 := Lib.hid c39
          have C92 := Lib.hid c92
          clear c39 c92
          by_cases hlo : (s[k].toNat : Int) < 32
          · have hz : quot ((bs s).drop 1) = none := HQ.out.none (by
              rw [drop_at s k hlt, quot_odd _ _ C39.out C92.out (by simp only [okB, Bool.and_eq_false_iff, decide_eq_false_iff_not]; left; omega)])
            have HZ := Lib.hid hz
            clear hz
            go_wp2
            go_ret2
            unfold quotV; rw [HZ.out, ← HB.out]
            exact ⟨rfl, HL.out⟩
          · by_cases hhi : 126 < (s[k].toNat : Int)
            · have hz : quot ((bs s).drop 1) = none := HQ.out.none (by
                rw [drop_at s k hlt, quot_odd _ _ C39.out C92.out (by simp only [okB, Bool.and_eq_false_iff, decide_eq_false_iff_not]; right; omega)])
              have HZ := Lib.hid hz
              clear hz
              go_wp2
              go_ret2
              unfold quotV; rw [HZ.out, ← HB.out]
              exact ⟨rfl, HL.out⟩
            · have HZ := Lib.hid (HQ.out.step hlt hk1 C39.out C92.out (by simp only [okB, Bool.and_eq_true, decide_eq_true_eq]; omega))
              have hw := Tryd.builder_WriteByte B B (Lib.byteCells l) s[k].toNat wr HU.out HLC.out hBs
              have HW := Lib.hid hw
              clear hw
              go_wp2_with (go_at_call 52; refine HW.out.mono ?_; rintro e w' ⟨rfl, hu2, hb2⟩)
              have HB2 := Lib.hid (HL.out.trans hb2)
              have HU2 := Lib.hid hu2
              clear hb2 hu2
              go_roundw
              case rel => exact ⟨k + 1, l ++ [s[k]], by omega, by omega, by go_num, by simp; omega, by rw [byteCells_snoc]; exact .inr HU2.out, HB2.out, HZ.out⟩
              case measure => simp [intOf]; omega
    · have hz : quot ((bs s).drop 1) = none := HQ.out.none (by rw [List.drop_eq_nil_of_le (by rw [bs_len]; omega)]; exact quot_end)
      have HZ := Lib.hid hz
      clear hz
      go_wp2
      go_ret2
      unfold quotV; rw [HZ.out, ← HB.out]
      exact ⟨rfl, HL.out⟩
end Go.Proofs.YtmdelgaeikicpaaDoor.Lx
