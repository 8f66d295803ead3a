/- Contract of package lexer's iterator: what 'tokens' of a text gives, one by one. -/
import Derived.Test.YtmdelgaeikicpaaDoorLexF
import Derived.RangeFuncNested
import Derived.RangeFuncLeaves
import Derived.Shelf.Abstract
import Derived.OwnWalkIn
import Derived.TacticsInMore
import Derived.LoopNIn
import Derived.LoopIn
import Derived.BigFrameIn
namespace Go.Proofs.YtmdelgaeikicpaaDoor.Lx
open Go.RowKit Go.Shelf
set_option linter.unusedVariables false
set_option linter.unusedSimpArgs false

theorem items_fuel : ∀ (d d' : Nat) (l : Bs) (p : Nat), l.length ≤ d → l.length ≤ d' → items d l p = items d' l p
  | 0, d', l, p, h, h' => by
    obtain rfl : l = [] := List.length_eq_zero_iff.1 (by omega)
    cases d' <;> rfl
  | d + 1, 0, l, p, h, h' => by
    obtain rfl : l = [] := List.length_eq_zero_iff.1 (by omega)
    rfl
  | d + 1, d' + 1, [], p, h, h' => rfl
  | d + 1, d' + 1, c :: r, p, h, h' => by
    simp only [List.length_cons] at h h'
    simp only [items]
    split
    · exact items_fuel d d' r (p + 1) (by omega) (by omega)
    · split
      · rfl
      · cases ht : tokB (c :: r) with
        | error e => rfl
        | ok x =>
          obtain ⟨k, t, n⟩ := x
          obtain ⟨h1, h2, h3⟩ := tokB_le ht
          simp only
          rw [items_fuel d d' ((c :: r).drop n) (p + n) (by rw [List.length_drop]; simp only [List.length_cons] at *; omega) (by rw [List.length_drop]; simp only [List.length_cons] at *; omega)]
def itemsAt (l : Bs) (k : Nat) : List Item := items (l.drop k).length (l.drop k) k
theorem itemsAt_zero (l : Bs) : itemsAt l 0 = itemsOf l := rfl
theorem itemsAt_end (l : Bs) (k : Nat) (h : l.length ≤ k) : itemsAt l k = [] := by
  unfold itemsAt; rw [List.drop_eq_nil_of_le h]; rfl
theorem itemsAt_step (l : Bs) (k : Nat) (h : k < l.length) : itemsAt l k = if blankB l[k] then itemsAt l (k + 1) else if l[k].toNat = 37 then [] else match tokB (l.drop k) with
      | .error e => [⟨0, k, [], e⟩]
      | .ok (kd, t, n) => ⟨kd, k, t, 0⟩ :: itemsAt l (k + n) := by
  unfold itemsAt
  have hd := List.drop_eq_getElem_cons h
  rw [hd]
  simp only [List.length_cons, items]
  split
  · exact items_fuel _ _ _ _ (Nat.le_refl _) (Nat.le_refl _)
  · split
    · rfl
    · rw [← hd]
      cases ht : tokB (l.drop k) with
      | error e => rfl
      | ok x =>
        obtain ⟨kd, t, n⟩ := x
        obtain ⟨h1, h2, h3⟩ := tokB_le ht
        simp only [List.drop_drop]
        rw [items_fuel _ ((l.drop (k + n)).length) (l.drop (k + n)) (k + n) (by rw [List.length_drop, List.length_drop]; omega) (Nat.le_refl _)]
theorem tokB_err {l : Bs} {e : Int} (h : tokB l = .error e) : e = 20 ∨ e = 3 := by
  rw [tokB.eq_def] at h
  cases l with
  | nil => simp at h; omega
  | cons c r =>
    simp only at h
    repeat' split at h
    all_goals first | (simp at h; done) | (simp at h; omega)

abbrev encs (x : Item) : Array Value := #[.agg #[.int .i64 x.kind, .int .i64 x.pos, .string ⟨x.text.toArray⟩], .int .i64 x.err]
def Kp (bx : Nat) (W W' : World) : Prop := W'.heap[bx]? = W.heap[bx]? ∧ W.heap.size ≤ W'.heap.size

theorem indexByte_blank (c : UInt8) (w : World) : Calls Tryd.prog 32 #[.string ⟨#[32, 9, 13]⟩, .int .u8 c.toNat] w fun e w' => ∃ i : Int, (0 ≤ i ↔ blankB c = true) ∧ e = .returned (.int .i64 i) ∧ w = w' := by
  refine (Tryd.strings_IndexByte ⟨#[32, 9, 13]⟩ c.toNat w).mono ?_
  rintro e w' ⟨rfl, rfl⟩
  refine ⟨_, ?_, rfl, rfl⟩
  have e : ((c.toNat : Int).toNat.toUInt8) = c := by simp
  rw [e]
  have h1 : blankB c = (((32 : UInt8) == c) || (((9 : UInt8) == c) || ((13 : UInt8) == c))) := by
    rw [Bool.eq_iff_iff]; simp only [blankB, Bool.or_eq_true, decide_eq_true_eq, beq_iff_eq]
    constructor
    · rintro ((h | h) | h)
      · exact .inl (UInt8.toNat_inj.1 h.symm)
      · exact .inr (.inl (UInt8.toNat_inj.1 h.symm))
      · exact .inr (.inr (UInt8.toNat_inj.1 h.symm))
    · rintro (rfl | rfl | rfl) <;> simp
  rw [h1]
  show 0 ≤ Lib.indexByte [32, 9, 13] c ↔ _
  by_cases h2 : (32 : UInt8) = c
  · subst h2; decide
  · by_cases h3 : (9 : UInt8) = c
    · subst h3; decide
    · by_cases h4 : (13 : UInt8) = c
      · subst h4; decide
      · simp [Lib.indexByte, h2, h3, h4]

theorem not_blank {c : UInt8} {i : Int} (h : blankB c = false) (hi : 0 ≤ i ↔ blankB c = true) : i < 0 := by
  rw [h] at hi; simp at hi; exact hi
set_option maxRecDepth 100000 in
set_option maxHeartbeats 2000000 in
theorem iter_in (n : Nat) (hn : 1 ≤ n) (l bx : Nat) (s : ByteArray) (hs : s.size ≤ 1048576) (J Jx : List Item → World → Prop) (W : World) (hbx : Blk W bx 9 [.string s]) (hJ : AbidesFrom W.heap.size J) 
    (hY : ∀ pre x W1, J pre W1 → pre.length < (itemsOf (bs s)).length → YieldAt Fence.wide (n - 1) Tryd.prog l (encs x) W1 fun e W' =>
      (e = .returned (.bool true) ∧ J (pre ++ [x]) W' ∧ Kp bx W1 W') ∨ (e = .returned (.bool false) ∧ Jx (pre ++ [x]) W'))
    (h0 : J [] W) :
    CallsIn Fence.wide n Tryd.prog 31 #[.func (.yield l) #[] #[], .pointer (some ⟨bx, 0, none⟩)] W fun e W' => (∃ v, e = .returned v) ∧
      ((∃ ys, ys = itemsOf (bs s) ∧ J ys W') ∨ (∃ pre, pre <+: itemsOf (bs s) ∧ Jx pre W')) := by
  refine callsIn_of_wp Tryd.func31 rfl trivial ?_ rfl
  simp only [Tryd.ntmps31, List.size_toArray, List.length_cons, List.length_nil, Nat.reduceAdd, Nat.reduceSub, Array.replicate_succ, Array.replicate_zero, List.push_toArray, List.append_toArray, List.nil_append, List.cons_append]
  gi_wp2
  gi_loopw [3] (fun i wr => ∃ (k : Nat) (pre : List Item), k ≤ s.size ∧ i = .int .i64 k ∧ itemsOf (bs s) = pre ++ itemsAt (bs s) k ∧ J pre wr ∧ Blk wr bx 9 [.string s] ∧ W.heap.size ≤ wr.heap.size) (fun i _ => s.size - (intOf i).toNat)
  case atStart => exact ⟨0, [], Nat.zero_le _, rfl, rfl, h0, hbx, Nat.le_refl _⟩
  case round =>
    obtain ⟨k, pre, hk, rfl, hx, hj, hb, hsz⟩ := hrel
    have c0 := hb.cell 0
    simp only [List.getElem?_cons_zero] at c0
    by_cases hlt : k < s.size
    · have hst := itemsAt_step (bs s) k (by rw [bs_len]; exact hlt)
      rw [bs_at s k hlt] at hst
      have HX := Lib.hid hx
      have HST := Lib.hid hst
      clear hx hst
      cases hbl : blankB s[k]
      · have HBL := Lib.hid hbl
        by_cases h37 : s[k].toNat = 37
        · have e37 : ((s[k].toNat : Int) == 37) = true := by simp [h37]
          have HY := Lib.hid (show itemsOf (bs s) = pre by rw [HX.out, HST.out, hbl, if_pos h37]; simp)
          clear hbl h37
          gi_wp2_with fail
          refine ⟨trivial, (callsIn_wide.2 (indexByte_blank _ _)).mono ?_⟩
          rintro e w' ⟨i, hi, rfl, rfl⟩
          have hi2 : i < 0 := not_blank HBL.out hi
          clear hi
          gi_wp2_with fail
          refine bodyPost_ret (results_none rfl _ _ _) rfl ?_
          exact ⟨⟨_, rfl⟩, .inl ⟨pre, HY.out.symm, hj⟩⟩
        · have e37 : ((s[k].toNat : Int) == 37) = false := by rw [beq_eq_false_iff_ne]; omega
          have HN := Lib.hid (show itemsAt (bs s) k = match tokB ((bs s).drop k) with
            | .error e => [⟨0, k, [], e⟩]
            | .ok (kd, t, n) => ⟨kd, k, t, 0⟩ :: itemsAt (bs s) (k + n) by rw [HST.out, hbl, if_neg h37]; simp)
          clear hbl h37 HST
          have hex : 1 ≤ (s.extract k s.size).size := by rw [ByteArray.size_extract]; omega
          have hex2 : (s.extract k s.size).size ≤ 1048576 := by rw [ByteArray.size_extract]; omega
          have HTK := Lib.hid (fun w => token_any (s.extract k s.size) w hex2 hex)
          have HV : Hid (tokV (s.extract k s.size) = tokR (tokB ((bs s).drop k))) := Lib.hid (by unfold tokV; rw [bs_drop])
          clear hex hex2
          obtain ⟨t, ht⟩ : ∃ t, tokB ((bs s).drop k) = t := ⟨_, rfl⟩
          rw [ht] at HV HN
          cases t with
          | error er =>
            have her := tokB_err ht
            have HE : Hid (itemsOf (bs s) = pre ++ [⟨0, k, [], er⟩]) := Lib.hid (by rw [HX.out, HN.out])
            have HV2 : Hid (tokV (s.extract k s.size) = .tuple #[.agg #[.int .i64 0, .int .i64 0, .string ⟨#[]⟩], .int .i64 0, .int .i64 er]) := Lib.hid (by rw [HV.out]; rfl)
            have hen : (er != 0) = true := by rw [bne_iff_ne]; omega
            have hee : (er == 0) = false := by rw [beq_eq_false_iff_ne]; omega
            have HJ1 : Hid (∀ W1, J pre W1 → YieldAt Fence.wide (n - 1) Tryd.prog l (encs ⟨0, k, [], er⟩) W1 fun e W' =>
              (e = .returned (.bool true) ∧ J (pre ++ [⟨0, k, [], er⟩]) W' ∧ Kp bx W1 W') ∨ (e = .returned (.bool false) ∧ Jx (pre ++ [⟨0, k, [], er⟩]) W')) := Lib.hid (fun W1 h => hY pre ⟨0, k, [], er⟩ W1 h (by rw [HE.out]; simp))
            clear her ht
            gi_wp2_with fail
            refine ⟨trivial, (callsIn_wide.2 (indexByte_blank _ _)).mono ?_⟩
            rintro e w' ⟨i, hi, rfl, rfl⟩
            have hi2 : i < 0 := not_blank HBL.out hi
            clear hi
            gi_wp2_with fail
            refine ⟨trivial, (callsIn_wide.2 (HTK.out _)).mono ?_⟩
            rw [HV2.out]
            rintro e w2 ⟨rfl, hbw⟩
            have hb2 := hb.below hbw hb.lt
            have c2 := hb2.cell 0
            simp only [List.getElem?_cons_zero] at c2
            have hbw2 : Below wr.heap.size wr (w2.alloc (.cells #[.int .i64 0, .int .i64 k, .string ⟨#[]⟩] 33)) := hbw.alloc hbw.size _
            have hj2 : J pre (w2.alloc (.cells #[.int .i64 0, .int .i64 k, .string ⟨#[]⟩] 33)) := hJ pre wr _ none hj ⟨hbw2.os, hbw2.tape, hbw2.output, hbw2.size, fun i hi _ => hbw2.block i hi⟩ (fun r h => by cases h)
            have hb3 : Blk (w2.alloc (.cells #[.int .i64 0, .int .i64 k, .string ⟨#[]⟩] 33)) bx 9 [.string s] := hb2.alloc _
            have hsz3 : W.heap.size ≤ (w2.alloc (.cells #[.int .i64 0, .int .i64 k, .string ⟨#[]⟩] 33)).heap.size := Nat.le_trans hsz hbw2.size
            obtain ⟨fn, tmps, assign, body, hy, hR⟩ := HJ1.out _ hj2
            dsimp only [encs] at hy
            have HSZ3 := Lib.hid hsz3
            have HB3 := Lib.hid hb3
            clear hbw hb2 hbw2 hj2 hj hb hb3 hsz3
            gi_wp2
            refine hR.mono ?_
            rintro e W3 (⟨rfl, hJ3, hk3⟩ | ⟨rfl, hJx3⟩)
            · gi_wp2
              refine bodyPost_ret (results_none rfl _ _ _) rfl ?_
              exact ⟨⟨_, rfl⟩, .inl ⟨_, HE.out.symm, hJ3⟩⟩
            · gi_wp2
              refine bodyPost_ret (results_none rfl _ _ _) rfl ?_
              exact ⟨⟨_, rfl⟩, .inr ⟨_, by rw [HE.out]; exact List.prefix_refl _, hJx3⟩⟩
          | ok x =>
            obtain ⟨kd, tx, m⟩ := x
            obtain ⟨hn1, hn2, hn3⟩ := tokB_le ht
            have hn4 : k + m ≤ s.size := by rw [List.length_drop, bs_len] at hn2; omega
            have HE : Hid (itemsOf (bs s) = (pre ++ [⟨kd, k, tx, 0⟩]) ++ itemsAt (bs s) (k + m)) := Lib.hid (by rw [HX.out, HN.out]; simp)
            have HV2 : Hid (tokV (s.extract k s.size) = .tuple #[.agg #[.int .i64 kd, .int .i64 0, .string ⟨tx.toArray⟩], .int .i64 m, .int .i64 0]) := Lib.hid (by rw [HV.out]; rfl)
            have HJ1 : Hid (∀ W1, J pre W1 → YieldAt Fence.wide (n - 1) Tryd.prog l (encs ⟨kd, k, tx, 0⟩) W1 fun e W' =>
              (e = .returned (.bool true) ∧ J (pre ++ [⟨kd, k, tx, 0⟩]) W' ∧ Kp bx W1 W') ∨ (e = .returned (.bool false) ∧ Jx (pre ++ [⟨kd, k, tx, 0⟩]) W')) := Lib.hid (fun W1 h => hY pre ⟨kd, k, tx, 0⟩ W1 h (by rw [HE.out]; simp))
            clear hn2 hn3 ht
            gi_wp2_with fail
            refine ⟨trivial, (callsIn_wide.2 (indexByte_blank _ _)).mono ?_⟩
            rintro e w' ⟨i, hi, rfl, rfl⟩
            have hi2 : i < 0 := not_blank HBL.out hi
            clear hi
            gi_wp2_with fail
            refine ⟨trivial, (callsIn_wide.2 (HTK.out _)).mono ?_⟩
            rw [HV2.out]
            rintro e w2 ⟨rfl, hbw⟩
            have hb2 := hb.below hbw hb.lt
            have c2 := hb2.cell 0
            simp only [List.getElem?_cons_zero] at c2
            have hbw2 : Below wr.heap.size wr (w2.alloc (.cells #[.int .i64 kd, .int .i64 k, .string ⟨tx.toArray⟩] 33)) := hbw.alloc hbw.size _
            have hj2 : J pre (w2.alloc (.cells #[.int .i64 kd, .int .i64 k, .string ⟨tx.toArray⟩] 33)) := hJ pre wr _ none hj ⟨hbw2.os, hbw2.tape, hbw2.output, hbw2.size, fun i hi _ => hbw2.block i hi⟩ (fun r h => by cases h)
            have hb3 : Blk (w2.alloc (.cells #[.int .i64 kd, .int .i64 k, .string ⟨tx.toArray⟩] 33)) bx 9 [.string s] := hb2.alloc _
            have hsz3 : W.heap.size ≤ (w2.alloc (.cells #[.int .i64 kd, .int .i64 k, .string ⟨tx.toArray⟩] 33)).heap.size := Nat.le_trans hsz hbw2.size
            obtain ⟨fn, tmps, assign, body, hy, hR⟩ := HJ1.out _ hj2
            dsimp only [encs] at hy
            have HSZ3 := Lib.hid hsz3
            have HB3 := Lib.hid hb3
            clear hbw hb2 hbw2 hj2 hj hb hb3 hsz3
            gi_wp2
            refine hR.mono ?_
            rintro e W3 (⟨rfl, hJ3, hk3⟩ | ⟨rfl, hJx3⟩)
            · have hb4 : Blk W3 bx 9 [.string s] := hk3.1.trans HB3.out
              have hsz4 := Nat.le_trans HSZ3.out hk3.2
              clear hk3
              gi_wp2
              go_roundw
              case rel => exact ⟨k + m, _, hn4, by go_num, HE.out, hJ3, hb4, hsz4⟩
              case measure => simp [intOf]; omega
            · gi_wp2
              refine bodyPost_ret (results_none rfl _ _ _) rfl ?_
              exact ⟨⟨_, rfl⟩, .inr ⟨_, ⟨_, HE.out.symm⟩, hJx3⟩⟩
      · have HBL := Lib.hid hbl
        have HY := Lib.hid (show itemsOf (bs s) = pre ++ itemsAt (bs s) (k + 1) by rw [HX.out, HST.out, hbl]; simp)
        clear hbl
        gi_wp2_with fail
        refine ⟨trivial, (callsIn_wide.2 (indexByte_blank _ _)).mono ?_⟩
        rintro e w' ⟨i, hi, rfl, rfl⟩
        have hi2 : 0 ≤ i := hi.2 HBL.out
        clear hi
        gi_wp2_with fail
        go_roundw
        case rel => exact ⟨k + 1, pre, by omega, by go_num, HY.out, hj, hb, hsz⟩
        case measure => simp [intOf]; omega
    · have hn : itemsAt (bs s) k = [] := itemsAt_end _ _ (by rw [bs_len]; omega)
      have HX := Lib.hid (show itemsOf (bs s) = pre by rw [hx, hn, List.append_nil])
      clear hx hn
      gi_wp2
      go_end0
      exact ⟨⟨_, rfl⟩, .inl ⟨pre, HX.out.symm, hj⟩⟩
end Go.Proofs.YtmdelgaeikicpaaDoor.Lx
