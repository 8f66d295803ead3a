/- The walk of the law LexerLexes. -/
import Derived.Test.YtmdelgaeikicpaaDoorLexT
import Derived.Test.YtmdelgaeikicpaaDoorLexJ
import Derived.Test.YtmdelgaeikicpaaDoorPsamex1
namespace Go.Proofs.YtmdelgaeikicpaaDoor.Lx
open Go.RowKit Go.Proofs.YtmdelgaeikicpaaDoorW.PrintWords
set_option linter.unusedVariables false
set_option linter.unusedSimpArgs false

/-- A row of tokens is read there. -/
def rowAt (w : World) (A : Option Addr) (L : List Tok) : Prop :=
  L.length ≤ 9223372036854775807 ∧ (0 < L.length → ∃ ad, A = some ad ∧ ∀ j x, L[j]? = some x → w.cell? (ad.add (j * 3)) = some (.int .i64 x.kind) ∧ w.cell? (ad.add (j * 3 + 1)) = some (.int .i64 x.pos) ∧ w.cell? (ad.add (j * 3 + 2)) = some (.string ⟨x.text.toArray⟩))
def s33 (x : Tok) : Psame.S33 := ⟨x.kind, x.pos, ⟨x.text.toArray⟩⟩
def s39 (x : Tok) : Psame.S39 := ⟨x.kind, x.pos, ⟨x.text.toArray⟩⟩
theorem c33 {w : World} {A : Option Addr} {L : List Tok} (h : rowAt w A L) : Kd.C Psame.k33 w A (L.map s33).length (L.map s33) := by
  refine ⟨rfl, by simpa using h.1, fun hn => ?_⟩
  obtain ⟨ad, rfl, hc⟩ := h.2 (by simpa using hn)
  refine ⟨ad, rfl, fun j p hp => ?_⟩
  rw [List.getElem?_map] at hp
  obtain ⟨x, hx, rfl⟩ := Option.map_eq_some_iff.1 hp
  obtain ⟨h0, h1, h2⟩ := hc j x hx
  refine ⟨[.int .i64 x.kind, .int .i64 x.pos, .string ⟨x.text.toArray⟩], rfl, Psame.k33_mk w (s33 x), fun i u hu => ?_⟩
  match i, hu with
  | 0, hu => cases hu; exact h0
  | 1, hu => cases hu; exact h1
  | 2, hu => cases hu; exact h2
  | i + 3, hu => simp at hu
theorem c39 {w : World} {A : Option Addr} {L : List Tok} (h : rowAt w A L) : Kd.C Psame.k39 w A (L.map s39).length (L.map s39) := by
  refine ⟨rfl, by simpa using h.1, fun hn => ?_⟩
  obtain ⟨ad, rfl, hc⟩ := h.2 (by simpa using hn)
  refine ⟨ad, rfl, fun j p hp => ?_⟩
  rw [List.getElem?_map] at hp
  obtain ⟨x, hx, rfl⟩ := Option.map_eq_some_iff.1 hp
  obtain ⟨h0, h1, h2⟩ := hc j x hx
  refine ⟨[.int .i64 x.kind, .int .i64 x.pos, .string ⟨x.text.toArray⟩], rfl, Psame.k39_mk w (s39 x), fun i u hu => ?_⟩
  match i, hu with
  | 0, hu => cases hu; exact h0
  | 1, hu => cases hu; exact h1
  | 2, hu => cases hu; exact h2
  | i + 3, hu => simp at hu
theorem add0 (g n : Nat) : (⟨g, 0, none⟩ : Addr).add n = ⟨g, n, none⟩ := by
  unfold Addr.add; split
  · simp_all
  · simp
theorem cellsT_get : ∀ (l : List Tok) (k : Nat) (x : Tok), l[k]? = some x → (cellsT l)[k * 3]? = some (.int .i64 x.kind) ∧ (cellsT l)[k * 3 + 1]? = some (.int .i64 x.pos) ∧ (cellsT l)[k * 3 + 2]? = some (.string ⟨x.text.toArray⟩)
  | [], k, x, h => by simp at h
  | y :: l, 0, x, h => by
    simp at h; subst h
    simp [cellsT]
  | y :: l, k + 1, x, h => by
    have ih := cellsT_get l k x (by simpa using h)
    have e : cellsT (y :: l) = .int .i64 y.kind :: .int .i64 y.pos :: .string ⟨y.text.toArray⟩ :: cellsT l := rfl
    rw [e, show (k + 1) * 3 = k * 3 + 3 from by omega]
    simpa [show k * 3 + 3 + 1 = k * 3 + 1 + 3 from by omega, show k * 3 + 3 + 2 = k * 3 + 2 + 3 from by omega] using ih
theorem own_at {w : World} {base : Nat} {v : Value} {L : List Tok} (hl : L.length ≤ 1048576) (h : w.ownsRow base 33 3 v L.length (cellsT L)) : ∃ A c, v = .slice A L.length c ∧ L.length ≤ c ∧ rowAt w A L := by
  rcases h.2 with ⟨rfl, h0⟩ | ⟨g, cap, cur, rfl, hg, hh, h2, h3, h4, h5⟩
  · exact ⟨none, 0, by rw [h0], by omega, by omega, fun h => by omega⟩
  · refine ⟨_, cap, rfl, h2, by omega, fun hn => ⟨_, rfl, fun j x hx => ?_⟩⟩
    obtain ⟨x0, x1, x2⟩ := cellsT_get L j x hx
    have hk : Blk w g 33 (cellsT L ++ cur.toList.drop (L.length * 3)) := by
      unfold Blk; rw [hh, ← h5, List.take_append_drop]
    have hl2 : ∀ i u, (cellsT L)[i]? = some u → w.cell? (Addr.add ⟨g, 0, none⟩ i) = some u := by
      intro i u hi
      rw [add0, hk.cell, List.getElem?_append_left (by rw [List.getElem?_eq_some_iff] at hi; exact hi.1)]
      exact hi
    exact ⟨hl2 _ _ x0, hl2 _ _ x1, hl2 _ _ x2⟩
theorem r_at {w : World} {base : Nat} {ok : Nat → Prop} {v : Value} {L : List Tok} (hl : L.length ≤ 1048576) (h : Kd.R PLex.k39 39 w base ok v (L.map toS)) : ∃ A c, v = .slice A L.length c ∧ L.length ≤ c ∧ rowAt w A L := by
  have h' := h
  obtain ⟨_, inner, ho, hr⟩ := h'
  rcases ho.2 with ⟨rfl, h0⟩ | ⟨g, cap, cur, rfl, hg, hh, h2, h3, h4, h5⟩
  · rw [List.length_map] at h0
    exact ⟨none, 0, by rw [h0], by omega, by omega, fun h => by omega⟩
  · rw [List.length_map] at h2
    refine ⟨_, cap, by rw [List.length_map], h2, by omega, fun hn => ⟨_, rfl, fun j x hx => ?_⟩⟩
    have hj : j < L.length := by rw [List.getElem?_eq_some_iff] at hx; exact hx.1
    obtain ⟨c, hc, hM, hcell⟩ := Kd.R_getA h PLex.z39 (j : Int) (by omega) (by rw [List.length_map]; omega)
    have e : (L.map toS).getD ((j : Int)).toNat PLex.z39 = toS x := by
      rw [Int.toNat_natCast, List.getD_eq_getElem?_getD, List.getElem?_map, hx]; rfl
    rw [e] at hM
    obtain rfl := PLex.k39_openM hM
    exact ⟨hcell 0 _ rfl, hcell 1 _ rfl, hcell 2 _ rfl⟩
theorem p_same0 (L : List Tok) (hl : L.length ≤ 1048576) : ∀ (k j : Nat), j ≤ L.length → L.length - j + 1 ≤ k → Psame.assizelaw12_same.l0 k (L.map s33) (L.map s39) j = some true
  | 0, j, _, h => by omega
  | k + 1, j, hj, hk => by
    rw [Psame.assizelaw12_same.l0, List.length_map, List.length_map]
    by_cases hlt : j < L.length
    · have e1 : Psame.rd_T33 (L.map s33) j = s33 L[j] := by simp [Psame.rd_T33, hlt]
      have e2 : Psame.rd_T39 (L.map s39) j = s39 L[j] := by simp [Psame.rd_T39, hlt]
      rw [if_pos (by omega), if_pos (by omega), if_pos (by omega), e1, e2, if_pos (show (s33 L[j]).f0 = (s39 L[j]).f0 from rfl), if_pos (show (s33 L[j]).f1 = (s39 L[j]).f1 from rfl), if_pos (show (s33 L[j]).f2.toList = (s39 L[j]).f2.toList from rfl),
        w64 (by omega) (by omega), show (j : Int) + 1 = ((j + 1 : Nat) : Int) by omega]
      exact p_same0 L hl k (j + 1) (by omega) (by omega)
    · rw [if_neg (by omega)]
theorem same_any (L : List Tok) (hl : L.length ≤ 1048576) (A0 A1 : Option Addr) (c0 c1 : Nat) (w : World) (h0 : rowAt w A0 L) (h1 : rowAt w A1 L) (hc0 : L.length ≤ c0) (hc1 : L.length ≤ c1) :
    Calls Tryd.prog 9 #[.slice A0 L.length c0, .slice A1 L.length c1] w fun e w' => e = .returned (.bool true) ∧ Drawn0 w w' := by
  have hf : Psame.assizelaw12_same.f (L.length + 1) (L.map s33) (L.map s39) = some true := by
    unfold Psame.assizelaw12_same.f
    rw [if_pos (by simp)]
    exact p_same0 L hl _ 0 (Nat.zero_le _) (by omega)
  have h := Psame.assizelaw12_same.calls (L.length + 1) A0 c0 (L.map s33) A1 c1 (L.map s39) true w (c33 h0) (by simpa using hc0) (c39 h1) (by simpa using hc1) hf
  simpa only [List.length_map] using h
theorem rlex_any (s : ByteArray) (hs : s.size ≤ 1048576) (w : World) :
    Calls Tryd.prog 8 #[.string s] w fun e w' => ∃ v, e = .returned (.tuple #[v, .int .i64 (lexB (bs s)).2.1, .int .i64 (lexB (bs s)).2.2]) ∧ Kd.R PLex.k39 39 w' w.heap.size (fun _ => True) v ((lexB (bs s)).1.map toS) ∧ Below w.heap.size w w' := by
  obtain ⟨k, hk⟩ := p_lex s hs
  exact PLex.assizeref12_Lex.calls k s _ _ _ w hk
theorem lexB_len (s : ByteArray) : (lexB (bs s)).1.length ≤ s.size := by
  have h1 := itemsOf_len s
  unfold lexB
  cases h : bad (itemsOf (bs s))
  · rw [fold_no _ _ h]; simpa using h1
  · obtain ⟨x, _, _, h2⟩ := fold_yes _ h
    rw [h2]; simp
theorem drawn_below {B : Nat} {a w w' : World} (h : Below B a w) (hd : Drawn0 w w') : Below B a w' := by
  obtain ⟨n, rfl⟩ := hd
  exact ⟨h.os, h.tape, h.output, h.size, h.block⟩

set_option maxRecDepth 100000 in
set_option maxHeartbeats 1600000 in
theorem lexes_walk (s : ByteArray) (w : World) (m : Int) (hs : s.size ≤ 1048576) (hm : w.cell? ⟨0, 0, none⟩ = some (.int .i64 m)) :
    Calls Tryd.prog 3 #[.string s] w fun e w' => e = .returned (.bool true) ∧ Below w.heap.size w w' := by
  have h0 := World.block_lt_of_cell? w _ hm
  have HM := Lib.hid hm
  have hlen := lexB_len s
  have HR := Lib.hid (rlex_any s hs)
  have HL := Lib.hid (lex_any s hs)
  clear hm
  obtain ⟨⟨x, p, e0⟩, hx⟩ : ∃ r, lexB (bs s) = r := ⟨_, rfl⟩
  have HX := Lib.hid hx
  rw [hx] at hlen
  have hlen2 : x.length ≤ 1048576 := Nat.le_trans hlen hs
  clear hx hlen
  go_enter Tryd.func3, Tryd.ntmps3
  go_wp2_with fail
  refine (HL.out w).mono ?_
  rintro e w1 ⟨v1, rfl, hb1, ho1⟩
  rw [HX.out] at ho1 ⊢
  have HB1 := Lib.hid hb1
  have HO1 := Lib.hid ho1
  clear hb1 ho1
  go_wp2_with fail
  refine (HR.out w1).mono ?_
  rw [HX.out]
  rintro e w2 ⟨v2, rfl, hr2, hb2⟩
  have ho1' : w2.ownsRow w.heap.size 33 3 v1 x.length (cellsT x) :=
    own_fr HO1.out (Fr.of_below (S := fun _ => False) hb2 (Nat.le_refl _)) (fun _ h => h.elim)
  obtain ⟨A1, c1, rfl, hc1, hrow1⟩ := own_at hlen2 ho1'
  obtain ⟨A2, c2, rfl, hc2, hrow2⟩ := r_at hlen2 hr2
  have HS := Lib.hid (same_any x hlen2 A1 A2 c1 c2 w2 hrow1 hrow2 hc1 hc2)
  have HB2 := Lib.hid (HB1.out.trans (hb2.mono HB1.out.size))
  clear hr2 hb2 ho1' hrow1 hrow2 hc1 hc2 HO1
  go_wp2_with fail
  refine HS.out.mono ?_
  rintro e w3 ⟨rfl, hd3⟩
  have HB3 := Lib.hid (drawn_below HB2.out hd3)
  clear hd3
  have hm3 := (HB3.out.cell (p := ⟨0, 0, none⟩) (by exact h0)).trans HM.out
  have HM3 := Lib.hid hm3
  clear hm3
  go_wp2_with fail
  refine (alive_any _ m HM3.out).mono ?_
  rintro e w4 ⟨rfl, hb4⟩
  have HB4 := Lib.hid (HB3.out.trans (hb4.mono HB3.out.size))
  clear hb4
  go_wp2_with fail
  go_ret
  exact ⟨rfl, HB4.out⟩
end Go.Proofs.YtmdelgaeikicpaaDoor.Lx
