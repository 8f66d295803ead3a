/- The walk of the law LexerJoins. -/
import Derived.Test.YtmdelgaeikicpaaDoorLexQ
import Derived.Test.YtmdelgaeikicpaaDoorLexM
import Derived.Test.YtmdelgaeikicpaaDoorLexJ
namespace Go.Proofs.YtmdelgaeikicpaaDoor.Lx
open Go.RowKit
set_option linter.unusedVariables false
set_option linter.unusedSimpArgs false

def cleanB (c : UInt8) : Bool := decide (c.toNat ≠ 39) && decide (c.toNat ≠ 37)
theorem clean_all (l : Bs) (h : l.all cleanB = true) : ∀ x ∈ l, x.toNat ≠ 39 ∧ x.toNat ≠ 37 := fun x hx => by
  have := List.all_eq_true.1 h x hx
  simpa [cleanB] using this
theorem clean_drop (l : Bs) (k : Nat) (h : k < l.length) : (l.drop k).all cleanB = (cleanB l[k] && (l.drop (k + 1)).all cleanB) := by
  rw [List.drop_eq_getElem_cons h]; rfl
theorem bs_join (a b : ByteArray) : bs (a ++ ⟨#[32]⟩ ++ b) = bs a ++ 32 :: bs b := by rw [bs_app, bs_app]; simp [bs]

/-- The cells of a list of tokens. -/
theorem cellsT_cons (x : Tok) (l : List Tok) : cellsT (x :: l) = .int .i64 x.kind :: .int .i64 x.pos :: .string ⟨x.text.toArray⟩ :: cellsT l := rfl
theorem cellsT_at (rest : List Value) : ∀ (l : List Tok) (k : Nat) (h : k < l.length), (cellsT l ++ rest)[k * 3]? = some (.int .i64 l[k].kind) ∧ (cellsT l ++ rest)[k * 3 + 1]? = some (.int .i64 l[k].pos) ∧ (cellsT l ++ rest)[k * 3 + 2]? = some (.string ⟨l[k].text.toArray⟩)
  | [], k, h => by simp at h
  | x :: l, 0, h => by simp [cellsT_cons]
  | x :: l, k + 1, h => by
    have := cellsT_at rest l k (by simpa using h)
    rw [cellsT_cons, show (k + 1) * 3 = k * 3 + 3 from by omega]
    simpa [show k * 3 + 3 + 1 = k * 3 + 1 + 3 from by omega, show k * 3 + 3 + 2 = k * 3 + 2 + 3 from by omega] using this

set_option maxRecDepth 100000 in
set_option maxHeartbeats 1600000 in
theorem joins_not (a b : ByteArray) (w : World) (m : Int) (hs : a.size ≤ 1048576) (hc : (bs a).all cleanB = false) (hm : w.cell? ⟨0, 0, none⟩ = some (.int .i64 m)) :
    Calls Tryd.prog 4 #[.string a, .string b] w fun e w' => e = .returned (.bool true) ∧ Below w.heap.size w w' := by
  have HM := Lib.hid hm
  have HA := Lib.hid (alive_any w m hm)
  have HC := Lib.hid hc
  clear hm hc
  go_enter Tryd.func4, Tryd.ntmps4
  go_wp2_with fail
  go_loop [5] (fun v => ∃ k : Nat, k ≤ a.size ∧ v = .int .i64 k ∧ ((bs a).drop k).all cleanB = false) (fun v => a.size - (intOf v).toNat)
  case atStart => exact ⟨0, Nat.zero_le _, rfl, HC.out⟩
  case round =>
    obtain ⟨k, hk, rfl, hal⟩ := hrel
    have HAL := Lib.hid hal
    clear hal
    by_cases hlt : k < a.size
    · have hd := clean_drop (bs a) k (by rw [bs_len]; exact hlt)
      rw [bs_at a k hlt] at hd
      have HD := Lib.hid hd
      clear hd
      by_cases c1 : a[k].toNat = 37
      · have d1 : ((a[k].toNat : Int) == 37) = true := by simp [c1]
        clear c1
        go_wp2_with (go_at_call 10; refine HA.out.mono ?_; rintro e w3 ⟨rfl, hb3⟩)
        go_ret
        exact ⟨rfl, hb3⟩
      · have d1 : ((a[k].toNat : Int) == 37) = false := by rw [beq_eq_false_iff_ne]; omega
        by_cases c2 : a[k].toNat = 39
        · have d2 : ((a[k].toNat : Int) == 39) = true := by simp [c2]
          clear c1 c2
          go_wp2_with (go_at_call 10; refine HA.out.mono ?_; rintro e w3 ⟨rfl, hb3⟩)
          go_ret
          exact ⟨rfl, hb3⟩
        · have d2 : ((a[k].toNat : Int) == 39) = false := by rw [beq_eq_false_iff_ne]; omega
          have HF := Lib.hid (show ((bs a).drop (k + 1)).all cleanB = false by
            have h1 := HAL.out; rw [HD.out, show cleanB a[k] = true by simp [cleanB, c1, c2]] at h1; simpa using h1)
          clear c1 c2
          go_wp2_with fail
          go_round
          case rel => exact ⟨k + 1, by omega, by go_num, HF.out⟩
          case measure => simp [intOf]; omega
    · exfalso
      have h1 := HAL.out
      rw [List.drop_eq_nil_of_le (by rw [bs_len]; omega)] at h1
      simp at h1

theorem own_view {w : World} {base n : Nat} {v : Value} {xs : List Value} (h : w.ownsRow base 33 3 v n xs) :
    ∃ a c, v = .slice a n c ∧ (0 < n → ∃ g rest, a = some ⟨g, 0, none⟩ ∧ n ≤ c ∧ Blk w g 33 (xs ++ rest)) := by
  rcases h.2 with ⟨rfl, h0⟩ | ⟨g, cap, cur, rfl, hg, hh, h2, h3, h4, h5⟩
  · subst h0; exact ⟨none, 0, rfl, fun h => by omega⟩
  · refine ⟨_, cap, rfl, fun _ => ⟨g, cur.toList.drop (n * 3), rfl, h2, ?_⟩⟩
    unfold Blk; rw [hh, ← h5, List.take_append_drop]
theorem lex_len (s : ByteArray) : (lexB (bs s)).1.length ≤ s.size := by
  have h1 := itemsOf_len s
  unfold lexB
  cases h : bad (itemsOf (bs s))
  · rw [fold_no _ _ h]; simpa using h1
  · obtain ⟨x, _, _, h2⟩ := fold_yes _ h
    rw [h2]; simp
theorem bel_drewN {B : Nat} {a w : World} (h : Below B a w) (n : Nat) : Below B a (w.drewN n) := ⟨h.os, h.tape, h.output, h.size, h.block⟩
theorem lex_poss (l : Bs) : ∀ x ∈ (lexB l).1, 0 ≤ x.pos ∧ x.pos ≤ l.length := by
  intro x hx
  unfold lexB at hx
  cases h : bad (itemsOf l)
  · rw [fold_no _ _ h] at hx
    simp only [List.nil_append, List.mem_map] at hx
    obtain ⟨y, hy, rfl⟩ := hx
    have := items_pos _ _ _ y hy
    simp only [tk]; omega
  · obtain ⟨y, _, _, h2⟩ := fold_yes _ h
    rw [h2] at hx; simp at hx
theorem bel_alloc {B : Nat} {a w : World} (h : Below B a w) (o : Obj) (hB : B ≤ w.heap.size) : Below B a (w.alloc o) :=
  ⟨h.os, h.tape, h.output, by have := h.size; simp only [World.alloc, Array.size_push]; omega, fun k hk => by
    rw [← h.block k hk]; simp only [World.alloc]; rw [Array.getElem?_push, if_neg (by omega)]⟩
/-- Behind the three calls of Lex. -/
structure Three (w W : World) (x y z : List Tok) (vx vy vz : Value) : Prop where
  ox : ∃ B, w.heap.size ≤ B ∧ W.ownsRow B 33 3 vx x.length (cellsT x)
  oy : ∃ B, w.heap.size ≤ B ∧ W.ownsRow B 33 3 vy y.length (cellsT y)
  oz : ∃ B, w.heap.size ≤ B ∧ W.ownsRow B 33 3 vz z.length (cellsT z)
  bel : Below w.heap.size w W
theorem own_below {w W : World} {B n : Nat} {v : Value} {xs : List Value} (h : w.ownsRow B 33 3 v n xs) (hb : Below w.heap.size w W) : W.ownsRow B 33 3 v n xs :=
  own_fr h (Fr.of_below (S := fun _ => False) hb (Nat.le_refl _)) (fun _ h => h.elim)

set_option maxRecDepth 100000 in
set_option maxHeartbeats 4000000 in
theorem joins_clean (a b : ByteArray) (w : World) (m : Int) (hs : a.size + b.size + 2 ≤ 1048576) (hc : (bs a).all cleanB = true) (hm : w.cell? ⟨0, 0, none⟩ = some (.int .i64 m)) :
    Calls Tryd.prog 4 #[.string a, .string b] w fun e w' => e = .returned (.bool true) ∧ Below w.heap.size w w' := by
  have h0 := World.block_lt_of_cell? w _ hm
  have HM := Lib.hid hm
  have HC := Lib.hid hc
  have HCL := Lib.hid (clean_all (bs a) hc)
  clear hm hc
  go_enter Tryd.func4, Tryd.ntmps4
  go_wp2_with fail
  go_loop [5] (fun v => ∃ k : Nat, k ≤ a.size ∧ v = .int .i64 k) (fun v => a.size - (intOf v).toNat)
  case atStart => exact ⟨0, Nat.zero_le _, rfl⟩
  case round =>
    obtain ⟨k, hk, rfl⟩ := hrel
    by_cases hlt : k < a.size
    · obtain ⟨c1, c2⟩ := HCL.out a[k] (List.getElem_mem (l := bs a) (n := k) (by rw [bs_len]; exact hlt))
      have d1 : ((a[k].toNat : Int) == 37) = false := by rw [beq_eq_false_iff_ne]; omega
      have d2 : ((a[k].toNat : Int) == 39) = false := by rw [beq_eq_false_iff_ne]; omega
      clear c1 c2
      go_wp2_with fail
      go_round
      case rel => exact ⟨k + 1, by omega, by go_num⟩
      case measure => simp [intOf]; omega
    · have hsz : (a ++ ⟨#[32]⟩).size = a.size + 1 := by rw [ByteArray.size_append]; rfl
      have HSZ := Lib.hid hsz
      have hsz1 : (a ++ ⟨#[32]⟩).size ≤ 1048576 := by omega
      have HSZ2 := Lib.hid (show (a ++ ⟨#[32]⟩ ++ b).size ≤ 1048576 by rw [ByteArray.size_append, hsz]; omega)
      have HJ := Lib.hid (bs_join a b)
      clear hsz
      obtain ⟨⟨x, px, ex⟩, hx⟩ : ∃ r, lexB (bs a) = r := ⟨_, rfl⟩
      obtain ⟨⟨y, py, ey⟩, hy⟩ : ∃ r, lexB (bs b) = r := ⟨_, rfl⟩
      obtain ⟨⟨z, pz, ez⟩, hz⟩ : ∃ r, lexB (bs (a ++ ⟨#[32]⟩ ++ b)) = r := ⟨_, rfl⟩
      have j1 := join_one (bs a) (bs b) HCL.out
      have j2 := join_two (bs a) (bs b) HCL.out
      have j3 := join_ok (bs a) (bs b) HCL.out
      rw [← HJ.out, hx, hz] at j1
      rw [← HJ.out, hx, hy, hz, bs_len] at j2 j3
      have J1 := Lib.hid j1
      have J2 := Lib.hid j2
      have J3 := Lib.hid j3
      have HX := Lib.hid hx
      have HY := Lib.hid hy
      have HZ := Lib.hid hz
      clear j1 j2 j3 hx hy hz
      go_wp2_with fail
      refine (lex_any a (by omega) w).mono ?_
      rintro e w1 ⟨vx, rfl, hb1, ho1⟩
      rw [HX.out] at ho1 ⊢
      go_wp2_with fail
      refine (lex_any b (by omega) w1).mono ?_
      rintro e w2 ⟨vy, rfl, hb2, ho2⟩
      rw [HY.out] at ho2 ⊢
      go_wp2_with fail
      refine (lex_any _ HSZ2.out w2).mono ?_
      rintro e w3 ⟨vz, rfl, hb3, ho3⟩
      rw [HZ.out] at ho3 ⊢
      have T := Lib.hid (show Three w w3 x y z vx vy vz from ⟨⟨_, Nat.le_refl _, own_below (own_below ho1 hb2) hb3⟩, ⟨_, hb1.size, own_below ho2 hb3⟩, ⟨_, Nat.le_trans hb1.size hb2.size, ho3⟩, (hb1.trans (hb2.mono hb1.size)).trans (hb3.mono (Nat.le_trans hb1.size hb2.size))⟩)
      clear ho1 ho2 ho3 hb1 hb2 hb3
      have hm3 := (T.out.bel.cell (p := ⟨0, 0, none⟩) (by exact h0)).trans HM.out
      have HAL := Lib.hid (alive_any w3 m hm3)
      clear hm3
      have hpy := lex_pos (bs b)
      rw [HY.out, bs_len] at hpy
      have hpy1 : 0 ≤ py := hpy.1
      have hpy2 : py ≤ b.size := hpy.2
      clear hpy
      by_cases he : ex = 0
      · by_cases hf : ey = 0
        · obtain ⟨hz2, hx2, hy2⟩ := J3.out he hf
          simp only [Prod.mk.injEq] at hz2
          obtain ⟨rfl, rfl, rfl⟩ := hz2
          subst he hf hx2 hy2
          have hnx : x.length ≤ 1048576 := by have := lex_len a; rw [HX.out] at this; simp only at this; omega
          have hny : y.length ≤ 1048576 := by have := lex_len b; rw [HY.out] at this; simp only at this; omega
          obtain ⟨Bx, hBx, hox⟩ := T.out.ox
          obtain ⟨By, hBy, hoy⟩ := T.out.oy
          obtain ⟨Bz, hBz, hoz⟩ := T.out.oz
          obtain ⟨ax, cx, rfl, hvx⟩ := own_view hox
          obtain ⟨ay, cy, rfl, hvy⟩ := own_view hoy
          obtain ⟨az, cz, rfl, hvz⟩ := own_view hoz
          clear hox hoy hoz
          have hlz : (x ++ y.map (shiftT (a.size + 1))).length = x.length + y.length := by simp
          rw [hlz] at hvz ⊢
          have HVX := Lib.hid hvx
          have HVY := Lib.hid hvy
          have HVZ := Lib.hid hvz
          have hbelow := T.out.bel
          have HBEL := Lib.hid hbelow
          clear hvx hvy hvz hbelow hpy1 hpy2
          have e8 : (((x.length + y.length : Nat) : Int) != (x.length : Int) + y.length) = false := by simp
          go_wp2_with fail
          go_loopw [15] (fun v wl => ∃ k : Nat, k ≤ x.length ∧ v = .int .i64 k ∧ Below w3.heap.size w3 wl) (fun v _ => x.length - (intOf v).toNat)
          case atStart => exact ⟨0, Nat.zero_le _, rfl, Below.refl _ _⟩
          case round =>
            obtain ⟨k2, hk2, rfl, hbl⟩ := hrel
            have HBL := Lib.hid hbl
            clear hbl
            by_cases hlt2 : k2 < x.length
            · obtain ⟨gx, rx, rfl, hcx, kx⟩ := HVX.out (by omega)
              obtain ⟨gz, rz, rfl, hcz, kz⟩ := HVZ.out (by omega)
              have kx2 := kx.below HBL.out kx.lt
              have kz2 := kz.below HBL.out kz.lt
              obtain ⟨x0, x1, x2⟩ := cellsT_at rx x k2 hlt2
              obtain ⟨z0, z1, z2⟩ := cellsT_at rz (x ++ y.map (shiftT (a.size + 1))) k2 (by simp; omega)
              rw [List.getElem_append_left hlt2] at z0 z1 z2
              have a0 := (kx2.cell _).trans x0
              have a1 := (kx2.cell _).trans x1
              have a2 := (kx2.cell _).trans x2
              have b0 := (kz2.cell _).trans z0
              have b1 := (kz2.cell _).trans z1
              have b2 := (kz2.cell _).trans z2
              generalize x[k2] = xx at a0 a1 a2 b0 b1 b2
              clear x0 x1 x2 z0 z1 z2 kx kz kx2 kz2
              go_wp2_with fail
              go_quiet (fail)
              go_wp2_with fail
              go_roundw
              case rel => exact ⟨k2 + 1, by omega, by go_num, bel_drewN HBL.out _⟩
              case measure => simp [intOf]; omega
            · obtain ⟨wo, hwo⟩ : ∃ wo, wo = wr := ⟨_, rfl⟩
              subst hwo
              have hk3 : k2 = x.length := by omega
              subst hk3
              clear hk2 hlt2
              go_wp2_with fail
              go_loopw [16] (fun v wl => ∃ k : Nat, k ≤ y.length ∧ v = .int .i64 k ∧ Below w3.heap.size w3 wl) (fun v _ => y.length - (intOf v).toNat)
              case atStart => exact ⟨0, Nat.zero_le _, rfl, HBL.out⟩
              case round =>
                obtain ⟨k2, hk2, rfl, hbl⟩ := hrel
                have HBL2 := Lib.hid hbl
                clear hbl
                by_cases hlt2 : k2 < y.length
                · obtain ⟨gy, ry, rfl, hcy, ky⟩ := HVY.out (by omega)
                  obtain ⟨gz, rz, rfl, hcz, kz⟩ := HVZ.out (by omega)
                  have ky2 := ky.below HBL2.out ky.lt
                  have kz2 := kz.below HBL2.out kz.lt
                  obtain ⟨x0, x1, x2⟩ := cellsT_at ry y k2 hlt2
                  obtain ⟨z0, z1, z2⟩ := cellsT_at rz (x ++ y.map (shiftT (a.size + 1))) (x.length + k2) (by simp; omega)
                  rw [List.getElem_append_right (by omega), List.getElem_map] at z0 z1 z2
                  simp only [Nat.add_sub_cancel_left, shiftT] at z0 z1 z2
                  have hsz1 := HBL2.out.size
                  have hgy := ky2.lt
                  have hgz := kz2.lt
                  have a0 := (ky2.cell _).trans x0
                  have a1 := (ky2.cell _).trans x1
                  have a2 := (ky2.cell _).trans x2
                  have b0 := (kz2.cell _).trans z0
                  have b1 := (kz2.cell _).trans z1
                  have b2 := (kz2.cell _).trans z2
                  have hpos : 0 ≤ y[k2].pos ∧ y[k2].pos ≤ b.size := by
                    have := lex_poss (bs b) y[k2] (by rw [HY.out]; exact List.getElem_mem hlt2)
                    rw [bs_len] at this; exact this
                  generalize y[k2] = yy at a0 a1 a2 b0 b1 b2 hpos
                  obtain ⟨hp1, hp2⟩ := hpos
                  clear x0 x1 x2 z0 z1 z2 ky kz ky2 kz2
                  have d1 : (yy.kind != yy.kind) = false := by simp
                  have d3 : (yy.pos + ((a.size + 1 : Nat) : Int) != yy.pos + a.size + 1) = false := by rw [bne_eq_false_iff_eq]; omega
                  go_wp2_with fail
                  go_quiet (fail)
                  go_wp2_with fail
                  go_roundw
                  case rel => exact ⟨k2 + 1, by omega, by go_num, bel_drewN (bel_alloc HBL2.out _ HBL2.out.size) _⟩
                  case measure => simp [intOf]; omega
                · go_wp2_with fail
                  refine (alive_any _ m ((HBL2.out.cell (p := ⟨0, 0, none⟩) (by have := T.out.bel.size; show 0 < _; omega)).trans ((T.out.bel.cell (p := ⟨0, 0, none⟩) (by exact h0)).trans HM.out))).mono ?_
                  rintro e w4 ⟨rfl, hb4⟩
                  go_wp2_with fail
                  go_ret
                  exact ⟨rfl, (T.out.bel.trans (HBL2.out.mono T.out.bel.size)).trans (hb4.mono (Nat.le_trans T.out.bel.size HBL2.out.size))⟩
        · obtain ⟨hez, hpz⟩ := J2.out he hf
          have e1 : (ex != 0) = false := by simp [he]
          have e1b : (ex == 0) = true := by simp [he]
          have e2 : (ey != 0) = true := by rw [bne_iff_ne]; exact hf
          have e2b : (ey == 0) = false := by rw [beq_eq_false_iff_ne]; exact hf
          have e3 : (ez == ey) = true := by rw [beq_iff_eq]; exact hez
          have e4 : (pz == (a.size : Int) + 1 + py) = true := by rw [beq_iff_eq, hpz]; omega
          clear hez hpz he hf
          go_wp2_with fail
          refine HAL.out.mono ?_
          rintro e w4 ⟨rfl, hb4⟩
          go_wp2_with fail
          go_ret
          exact ⟨rfl, T.out.bel.trans (hb4.mono T.out.bel.size)⟩
      · have hez := J1.out he
        have e1 : (ex != 0) = true := by rw [bne_iff_ne]; exact he
        have e1b : (ex == 0) = false := by rw [beq_eq_false_iff_ne]; exact he
        have e2 : (ez == ex) = true := by rw [beq_iff_eq]; exact hez
        clear hez he
        go_wp2_with fail
        refine HAL.out.mono ?_
        rintro e w4 ⟨rfl, hb4⟩
        go_wp2_with fail
        go_ret
        exact ⟨rfl, T.out.bel.trans (hb4.mono T.out.bel.size)⟩
theorem joins_walk (a b : ByteArray) (w : World) (m : Int) (hs : a.size + b.size + 2 ≤ 1048576) (hm : w.cell? ⟨0, 0, none⟩ = some (.int .i64 m)) :
    Calls Tryd.prog 4 #[.string a, .string b] w fun e w' => e = .returned (.bool true) ∧ Below w.heap.size w w' := by
  cases hc : (bs a).all cleanB
  · exact joins_not a b w m (by omega) hc hm
  · exact joins_clean a b w m hs hc hm
end Go.Proofs.YtmdelgaeikicpaaDoor.Lx
