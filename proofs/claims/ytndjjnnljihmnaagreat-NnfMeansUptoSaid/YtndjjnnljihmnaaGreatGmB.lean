/- The chapter's examples come out as they should: alive. -/
import Derived.Test.YtndjjnnljihmnaaGreatGmA
namespace Go.Proofs.YtndjjnnljihmnaaGreat
open Go.RowKit
set_option linter.unusedVariables false
set_option linter.unusedSimpArgs false
/-- A slice of one term. -/
theorem ST.one {S : Nat → Prop} {w : World} {g n c : Nat} {T : TypeId} (x : Int) (f : ByteArray) {A : Option Addr} {us : List Tm} (hb : Blk w g T [.int .i64 x, .string f, .slice A n c]) (hS : S g) (h : ST S w A n c us) (cap : Nat) (hc : 1 ≤ cap) : ST S w (some ⟨g, 0, none⟩) 1 cap [.mk x f us] := by
  refine ⟨rfl, hc, by omega, fun _ => ⟨g, 0, rfl, hS, ⟨_, RT.shut _ _ h, ?_⟩, trivial⟩⟩
  intro i u hu
  rw [show (0 : Nat) + i = i by omega, hb.cell]
  exact hu
/-- A predicate's readings, where its arguments are read. -/
theorem atF_read {S : Nat → Prop} {w : World} (p : UInt8) {A : Option Addr} {n : Nat} {l : List Tm} (h : ST S w A n n l) : RF S w (atF p l) [.int .i64 1, .string ⟨#[]⟩, .int .i64 0, .string (⟨#[64]⟩ ++ ⟨#[p]⟩), .slice A n n, .int .i64 0, .string truS, .slice none 0 0, .slice none 0 0] := RF.shut _ _ _ _ _ _ h (ST.nil _ _ _) (SF.nil _ _ _)
theorem SF.rf1 {S : Nat → Prop} {w : World} {g : Nat} {T : TypeId} {cs : List Value} {f : Fm} (h : RF S w f cs) (hb : Blk w g T cs) (hS : S g) : SF S w (some ⟨g, 0, none⟩) 1 1 [f] :=
  ⟨rfl, Nat.le_refl _, by omega, fun _ => ⟨g, 0, rfl, hS, ⟨cs, h, fun i u hu => by rw [show (0 : Nat) + i = i by omega, hb.cell]; exact hu⟩, trivial⟩⟩
theorem SF.rf2 {S : Nat → Prop} {w : World} {g : Nat} {T : TypeId} {cs ds : List Value} {f f' : Fm} (h : RF S w f cs) (h' : RF S w f' ds) (hb : Blk w g T (cs ++ ds)) (hS : S g) : SF S w (some ⟨g, 0, none⟩) 2 2 [f, f'] := by
  have hl := RF_len h
  refine ⟨rfl, Nat.le_refl _, by omega, fun _ => ⟨g, 0, rfl, hS, ⟨cs, h, fun i u hu => ?_⟩, ⟨ds, h', fun i u hu => ?_⟩, trivial⟩⟩
  · rw [show (0 : Nat) + i = i by omega, hb.cell, List.getElem?_append_left (by exact (List.getElem?_eq_some_iff.1 hu).1)]; exact hu
  · rw [show (0 : Nat) + 9 + i = 9 + i by omega, hb.cell, List.getElem?_append_right (by omega), hl, show 9 + i - 9 = i by omega]; exact hu
/-- A formula of a sign over kids that are read. -/
theorem sign_read {S : Nat → Prop} {w : World} (k : Int) (n : ByteArray) {A : Option Addr} {m : Nat} {ks : List Fm} (h : SF S w A m m ks) : RF S w (.mk k n (.mk 0 ⟨#[]⟩ []) (.mk 0 ⟨#[]⟩ []) ks) [.int .i64 k, .string n, .int .i64 0, .string ⟨#[]⟩, .slice none 0 0, .int .i64 0, .string ⟨#[]⟩, .slice none 0 0, .slice A m m] := RF.shut _ _ _ _ _ _ (ST.nil _ _ _) (ST.nil _ _ _) h
theorem nnf_ex {S : Nat → Prop} {w : World} {A : Option Addr} (h : SF S w A 1 1 [.mk 3 ⟨#[]⟩ (.mk 0 ⟨#[]⟩ []) (.mk 0 ⟨#[]⟩ []) [atF 112 [], fQ]]) : Calls Tryz.prog 6 #[.agg #[.int .i64 2, .string ⟨#[]⟩, .int .i64 0, .string ⟨#[]⟩, .slice none 0 0, .int .i64 0, .string ⟨#[]⟩, .slice none 0 0, .slice A 1 1]] w fun e w' => NRes (Up S w) w' exF.nnfR 0 e ∧ Below w.heap.size w w' := by
  have hw : exF.wt ≤ 1125899906842624 := Nat.le_trans ex5.1 (by decide)
  have hh := nnf_any 2 ⟨#[]⟩ 0 ⟨#[]⟩ [] 0 ⟨#[]⟩ [] [.mk 3 ⟨#[]⟩ (.mk 0 ⟨#[]⟩ []) (.mk 0 ⟨#[]⟩ []) [atF 112 [], fQ]] none 0 none 0 A 1 S w hw (ST.nil _ _ _) (ST.nil _ _ _) h
  have e : (Fm.mk 2 ⟨#[]⟩ (.mk 0 ⟨#[]⟩ []) (.mk 0 ⟨#[]⟩ []) [.mk 3 ⟨#[]⟩ (.mk 0 ⟨#[]⟩ []) (.mk 0 ⟨#[]⟩ []) [atF 112 [], fQ]]) = exF := rfl
  rw [e, ex1] at hh
  exact hh
theorem mini_ex {S : Nat → Prop} {w : World} {A : Option Addr} (h : SF S w A 1 1 [.mk 4 ⟨#[]⟩ (.mk 0 ⟨#[]⟩ []) (.mk 0 ⟨#[]⟩ []) [atF 112 [tX], atF 113 []]]) : Calls Tryz.prog 10 #[.agg #[.int .i64 7, .string ⟨#[88]⟩, .int .i64 0, .string ⟨#[]⟩, .slice none 0 0, .int .i64 0, .string ⟨#[]⟩, .slice none 0 0, .slice A 1 1]] w fun e w' => NRes (Up S w) w' exM.miniR 0 e ∧ Below w.heap.size w w' := by
  have hh := mini_at 7 ⟨#[88]⟩ 0 ⟨#[]⟩ [] 0 ⟨#[]⟩ [] [.mk 4 ⟨#[]⟩ (.mk 0 ⟨#[]⟩ []) (.mk 0 ⟨#[]⟩ []) [atF 112 [tX], atF 113 []]] none 0 none 0 A 1 S w (Nat.le_trans ex5.2.1 (by decide)) (Nat.le_trans ex5.2.2 (by decide)) (ST.nil _ _ _) (ST.nil _ _ _) h
  have e : (Fm.mk 7 ⟨#[88]⟩ (.mk 0 ⟨#[]⟩ []) (.mk 0 ⟨#[]⟩ []) [.mk 4 ⟨#[]⟩ (.mk 0 ⟨#[]⟩ []) (.mk 0 ⟨#[]⟩ []) [atF 112 [tX], atF 113 []]]) = exM := rfl
  rw [e, ex2] at hh
  exact hh
theorem NRes.lift {S S' : Nat → Prop} {w : World} {g : Fm} {en : Int} {e : Ending} (h : NRes S w g en e) (hs : Stay S S' w w) : NRes S' w g en e := by
  obtain ⟨k, n, vl, fl, al, vr, fr, ar, ts, Al, cl, Ar, cr, A, c, h1, h2, h3⟩ := h
  exact ⟨k, n, vl, fl, al, vr, fr, ar, ts, Al, cl, Ar, cr, A, c, h1, h2, r3 h3 hs⟩
theorem kid_kind2 {S : Nat → Prop} {w : World} {A : Option Addr} {c : Nat} {a b : Fm} (h : SF S w A 2 c [a, b]) : ∃ g o, A = some ⟨g, o, none⟩ ∧ w.cell? ⟨g, o, none⟩ = some (.int .i64 a.kind) ∧ w.cell? ⟨g, o + 9, none⟩ = some (.int .i64 b.kind) := by
  obtain ⟨_, _, _, h4⟩ := h
  obtain ⟨g, o, hA, _, ⟨cs, h1, h2⟩, ⟨cs', h3, h5⟩, _⟩ := h4 (by omega)
  obtain ⟨k, n, ⟨vl, fl, al⟩, ⟨vr, fr, ar⟩, ks⟩ := a
  obtain ⟨k', n', ⟨vl', fl', al'⟩, ⟨vr', fr', ar'⟩, ks'⟩ := b
  obtain ⟨_, _, _, _, _, _, rfl, _⟩ := h1.open
  obtain ⟨_, _, _, _, _, _, rfl, _⟩ := h3.open
  exact ⟨g, o, hA, h2 0 _ rfl, h5 0 _ rfl⟩
/-- Nnf's call of alive, in whatever world its argument's blocks were made. -/
theorem nnf_ex3 {N : Nat} {W3 w' : World} {gA gN g0 : Nat} (hQ : RF (fun b => N ≤ b) W3 fQ [.int .i64 7, .string ⟨#[88]⟩, .int .i64 0, .string ⟨#[]⟩, .slice none 0 0, .int .i64 0, .string ⟨#[]⟩, .slice none 0 0, .slice (some ⟨g0, 0, none⟩) 1 1]) (h0 : N ≤ W3.heap.size) (hb : Below W3.heap.size W3 w') (hN : Blk w' gN 27 [.int .i64 3, .string ⟨#[]⟩, .int .i64 0, .string ⟨#[]⟩, .slice none 0 0, .int .i64 0, .string ⟨#[]⟩, .slice none 0 0, .slice (some ⟨gA, 0, none⟩) 2 2]) (hA : Blk w' gA 27 [.int .i64 1, .string ⟨#[]⟩, .int .i64 0, .string (⟨#[64]⟩ ++ ⟨#[112]⟩), .slice none 0 0, .int .i64 0, .string truS, .slice none 0 0, .slice none 0 0, .int .i64 7, .string ⟨#[88]⟩, .int .i64 0, .string ⟨#[]⟩, .slice none 0 0, .int .i64 0, .string ⟨#[]⟩, .slice none 0 0, .slice (some ⟨g0, 0, none⟩) 1 1]) (hgN : W3.heap.size ≤ gN) (hgA : W3.heap.size ≤ gA) : Calls Tryz.prog 6 #[.agg #[.int .i64 2, .string ⟨#[]⟩, .int .i64 0, .string ⟨#[]⟩, .slice none 0 0, .int .i64 0, .string ⟨#[]⟩, .slice none 0 0, .slice (some ⟨gN, 0, none⟩) 1 1]] w' fun e wn => NRes (fun b => N ≤ b) wn exF.nnfR 0 e ∧ Below W3.heap.size W3 wn ∧ (∀ g T cs, Blk w' g T cs → Blk wn g T cs) := by
  refine (nnf_ex (SF.rf1 (S := fun b => N ≤ b) (sign_read 3 ⟨#[]⟩ (SF.rf2 (atF_read 112 (ST.nil _ _ _)) (hQ.stay (Stay.below hb)) hA (by show N ≤ gA; omega))) hN (by show N ≤ gN; omega))).mono ?_
  rintro e wn ⟨hr, hbn⟩
  have hsz := hb.size
  exact ⟨hr.lift (Stay.mono fun b h => by rcases h with h | h; exact h; show N ≤ b; omega), bel_go hb hbn, fun g T cs h => h.go hbn⟩
theorem nnf_ex4 {N : Nat} {W3 w' : World} {gA gN g0 : Nat} (gz : Nat) (hQ : RF (fun b => N ≤ b) W3 fQ [.int .i64 7, .string ⟨#[88]⟩, .int .i64 0, .string ⟨#[]⟩, .slice none 0 0, .int .i64 0, .string ⟨#[]⟩, .slice none 0 0, .slice (some ⟨g0, 0, none⟩) 1 1]) (h0 : N ≤ W3.heap.size) (hb : Below W3.heap.size W3 w') (hN : Blk w' gN 27 [.int .i64 3, .string ⟨#[]⟩, .int .i64 0, .string ⟨#[]⟩, .slice none 0 0, .int .i64 0, .string ⟨#[]⟩, .slice none 0 0, .slice (some ⟨gA, 0, none⟩) 2 2]) (hA : Blk w' gA 27 [.int .i64 1, .string ⟨#[]⟩, .int .i64 0, .string (⟨#[64]⟩ ++ ⟨#[112]⟩), .slice none 0 0, .int .i64 0, .string truS, .slice none 0 0, .slice none 0 0, .int .i64 7, .string ⟨#[88]⟩, .int .i64 0, .string ⟨#[]⟩, .slice none 0 0, .int .i64 0, .string ⟨#[]⟩, .slice none 0 0, .slice (some ⟨g0, 0, none⟩) 1 1]) (hgN : W3.heap.size ≤ gN ∧ gN ≠ gz) (hgA : W3.heap.size ≤ gA ∧ gA ≠ gz) (hz : W3.heap.size ≤ gz ∧ gz < w'.heap.size) : Calls Tryz.prog 6 #[.agg #[.int .i64 2, .string ⟨#[]⟩, .int .i64 0, .string ⟨#[]⟩, .slice none 0 0, .int .i64 0, .string ⟨#[]⟩, .slice none 0 0, .slice (some ⟨gN, 0, none⟩) 1 1]] w' fun e wn => NRes (fun b => N ≤ b ∧ b ≠ gz) wn exF.nnfR 0 e ∧ Below W3.heap.size W3 wn ∧ (∀ g T cs, Blk w' g T cs → Blk wn g T cs) := by
  refine (nnf_ex (SF.rf1 (S := fun b => N ≤ b ∧ b ≠ gz) (sign_read 3 ⟨#[]⟩ (SF.rf2 (atF_read 112 (ST.nil _ _ _)) (hQ.stay ((Stay.low.trans (Stay.mono (S' := fun b => N ≤ b ∧ b ≠ gz) fun b hb => ⟨hb.1, by have := hb.2; omega⟩)).trans (Stay.below hb))) hA (by show N ≤ gA ∧ gA ≠ gz; omega))) hN (by show N ≤ gN ∧ gN ≠ gz; omega))).mono ?_
  rintro e wn ⟨hr, hbn⟩
  have hsz := hb.size
  exact ⟨hr.lift (Stay.mono fun b h => by rcases h with h | h; exact h; show N ≤ b ∧ b ≠ gz; omega), bel_go hb hbn, fun g T cs h => h.go hbn⟩
theorem mini_ex3 {N : Nat} {w' : World} {gA gN gx : Nat} (hX : Blk w' gx 24 [.int .i64 0, .string ⟨#[88]⟩, .slice none 0 0]) (hN : Blk w' gN 27 [.int .i64 4, .string ⟨#[]⟩, .int .i64 0, .string ⟨#[]⟩, .slice none 0 0, .int .i64 0, .string ⟨#[]⟩, .slice none 0 0, .slice (some ⟨gA, 0, none⟩) 2 2]) (hA : Blk w' gA 27 [.int .i64 1, .string ⟨#[]⟩, .int .i64 0, .string (⟨#[64]⟩ ++ ⟨#[112]⟩), .slice (some ⟨gx, 0, none⟩) 1 1, .int .i64 0, .string truS, .slice none 0 0, .slice none 0 0, .int .i64 1, .string ⟨#[]⟩, .int .i64 0, .string (⟨#[64]⟩ ++ ⟨#[113]⟩), .slice none 0 0, .int .i64 0, .string truS, .slice none 0 0, .slice none 0 0]) (hgN : N ≤ gN) (hgA : N ≤ gA) (hgx : N ≤ gx) (hNw : N ≤ w'.heap.size) : Calls Tryz.prog 10 #[.agg #[.int .i64 7, .string ⟨#[88]⟩, .int .i64 0, .string ⟨#[]⟩, .slice none 0 0, .int .i64 0, .string ⟨#[]⟩, .slice none 0 0, .slice (some ⟨gN, 0, none⟩) 1 1]] w' fun e wn => NRes (fun b => N ≤ b) wn exM.miniR 0 e ∧ Below w'.heap.size w' wn := by
  refine (mini_ex (SF.rf1 (S := fun b => N ≤ b) (sign_read 4 ⟨#[]⟩ (SF.rf2 (atF_read 112 (ST.one 0 ⟨#[88]⟩ hX hgx (ST.nil _ _ _) 1 (Nat.le_refl _))) (atF_read 113 (ST.nil _ _ _)) hA hgA)) hN hgN)).mono ?_
  rintro e wn ⟨hr, hbn⟩
  exact ⟨hr.lift (Stay.mono fun b h => by rcases h with h | h; exact h; show N ≤ b; omega), hbn⟩
set_option maxRecDepth 100000 in
set_option maxHeartbeats 6400000 in
theorem alive_any (w : World) : Calls Tryz.prog 9 #[] w fun e w' => e = .returned (.bool true) ∧ Below w.heap.size w w' := by
  go_enter Tryz.func9, Tryz.ntmps9
  go_wp2_with fail
  refine (pred_any ⟨#[113]⟩ (by decide) (some ⟨w.heap.size, 0, none⟩) 1 1 _).mono ?_
  rintro e w2 ⟨rfl, hb2⟩
  go_upto_region 2 with (fail)
  have BX := Lib.hid ((((Blk.new w 24 [.int .i64 0, .string ⟨#[88]⟩, .slice none 0 0]).go hb2).alloc (.cells #[.int .i64 1, .string ⟨#[]⟩, .int .i64 0, .string (⟨#[64]⟩ ++ ⟨#[113]⟩), .slice (some ⟨w.heap.size, 0, none⟩) 1 1, .int .i64 0, .string truS, .slice none 0 0, .slice none 0 0] 27)).alloc (.cells #[.int .i64 7, .string ⟨#[88]⟩, .int .i64 0, .string ⟨#[]⟩, .slice none 0 0, .int .i64 0, .string ⟨#[]⟩, .slice none 0 0, .slice (some ⟨w2.heap.size, 0, none⟩) 1 1] 27))
  have BQ1 := Lib.hid ((Blk.new w2 27 [.int .i64 1, .string ⟨#[]⟩, .int .i64 0, .string (⟨#[64]⟩ ++ ⟨#[113]⟩), .slice (some ⟨w.heap.size, 0, none⟩) 1 1, .int .i64 0, .string truS, .slice none 0 0, .slice none 0 0]).alloc (.cells #[.int .i64 7, .string ⟨#[88]⟩, .int .i64 0, .string ⟨#[]⟩, .slice none 0 0, .int .i64 0, .string ⟨#[]⟩, .slice none 0 0, .slice (some ⟨w2.heap.size, 0, none⟩) 1 1] 27))
  have BQ := Lib.hid (Blk.new' (w2.alloc (.cells #[.int .i64 1, .string ⟨#[]⟩, .int .i64 0, .string (⟨#[64]⟩ ++ ⟨#[113]⟩), .slice (some ⟨w.heap.size, 0, none⟩) 1 1, .int .i64 0, .string truS, .slice none 0 0, .slice none 0 0] 27)) (w2.heap.size + 1) 27 [.int .i64 7, .string ⟨#[88]⟩, .int .i64 0, .string ⟨#[]⟩, .slice none 0 0, .int .i64 0, .string ⟨#[]⟩, .slice none 0 0, .slice (some ⟨w2.heap.size, 0, none⟩) 1 1] (by simp))
  have hw2 := hb2.size
  simp only [World.size_alloc] at hw2
  have HB3 := Lib.hid (bel_go ((Below.alloc (Below.refl _ w) (Nat.le_refl _) (.cells #[.int .i64 0, .string ⟨#[88]⟩, .slice none 0 0] 24)).trans (hb2.mono (by simp))) (show Below w2.heap.size w2 ((w2.alloc (.cells #[.int .i64 1, .string ⟨#[]⟩, .int .i64 0, .string (⟨#[64]⟩ ++ ⟨#[113]⟩), .slice (some ⟨w.heap.size, 0, none⟩) 1 1, .int .i64 0, .string truS, .slice none 0 0, .slice none 0 0] 27)).alloc (.cells #[.int .i64 7, .string ⟨#[88]⟩, .int .i64 0, .string ⟨#[]⟩, .slice none 0 0, .int .i64 0, .string ⟨#[]⟩, .slice none 0 0, .slice (some ⟨w2.heap.size, 0, none⟩) 1 1] 27)) from bel_two))
  simp only [List.toArray] at BX BQ1 BQ
  have HQF := Lib.hid (sign_read 7 ⟨#[88]⟩ (SF.rf1 (S := fun b => w.heap.size ≤ b) (atF_read 113 (ST.one 0 ⟨#[88]⟩ BX.out (Nat.le_refl _) (ST.nil _ _ _) 1 (Nat.le_refl _))) BQ1.out (by show w.heap.size ≤ w2.heap.size; omega)))
  generalize hgq : w2.heap.size + 1 = gq at *
  generalize hg0 : w2.heap.size = g0 at *
  generalize (w2.alloc (.cells #[.int .i64 1, .string ⟨#[]⟩, .int .i64 0, .string (⟨#[64]⟩ ++ ⟨#[113]⟩), .slice (some ⟨w.heap.size, 0, none⟩) 1 1, .int .i64 0, .string truS, .slice none 0 0, .slice none 0 0] 27)).alloc (.cells #[.int .i64 7, .string ⟨#[88]⟩, .int .i64 0, .string ⟨#[]⟩, .slice none 0 0, .int .i64 0, .string ⟨#[]⟩, .slice none 0 0, .slice (some ⟨g0, 0, none⟩) 1 1] 27) = W3 at *
  clear hb2 BX BQ1
  have hlq := BQ.out.lt
  have HQ0 := Lib.hid (bel_drew1 W3)
  have tk := BQ.out.nine; have z0 := tk.c0; have z1 := tk.c1; have z2 := tk.c2; have z3 := tk.c3; have z4 := tk.c4; have z5 := tk.c5; have z6 := tk.c6; have z7 := tk.c7; have z8 := tk.c8; clear tk
  have h3 := HB3.out.size
  go_cut [2, 3] (fun v2 v3 wx => ∃ g gkp gnp gvlp gflp galp gvrp gfrp garp gtsp gAlp gclp gArp gcrp gAp gcp, v2 = .pointer (some ⟨g, 0, none⟩) ∧ v3 = .int .i64 0 ∧ W3.heap.size ≤ g ∧ Blk wx g 27 [.int .i64 gkp, .string gnp, .int .i64 gvlp, .string gflp, .slice gAlp galp.length gclp, .int .i64 gvrp, .string gfrp, .slice gArp garp.length gcrp, .slice gAp gtsp.length gcp] ∧ exF.nnfR = (Fm.mk gkp gnp (.mk gvlp gflp galp) (.mk gvrp gfrp garp) gtsp) ∧ (ST (fun b => w.heap.size ≤ b) wx gAlp galp.length gclp galp ∧ ST (fun b => w.heap.size ≤ b) wx gArp garp.length gcrp garp ∧ SF (fun b => w.heap.size ≤ b) wx gAp gtsp.length gcp gtsp) ∧ Below W3.heap.size W3 wx)
  case first =>
    (first | (go_region_held3 (fun w' => w'.cell? ⟨gq, 0, none⟩ = some (.int .i64 7) ∧ w'.cell? ⟨gq, 1, none⟩ = some (.string ⟨#[88]⟩) ∧ w'.cell? ⟨gq, 2, none⟩ = some (.int .i64 0) ∧ w'.cell? ⟨gq, 3, none⟩ = some (.string ⟨#[]⟩) ∧ w'.cell? ⟨gq, 4, none⟩ = some (.slice none 0 0) ∧ w'.cell? ⟨gq, 5, none⟩ = some (.int .i64 0) ∧ w'.cell? ⟨gq, 6, none⟩ = some (.string ⟨#[]⟩) ∧ w'.cell? ⟨gq, 7, none⟩ = some (.slice none 0 0) ∧ w'.cell? ⟨gq, 8, none⟩ = some (.slice (some ⟨g0, 0, none⟩) 1 1)) (go_keep) (first | (go_at_call 23; refine (pred_any ⟨#[112]⟩ (by decide) none 0 0 _).mono ?_; rintro e w9 ⟨rfl, hb9⟩; have BN : Hid (Blk w9 W3.heap.size 27 [.int .i64 0, .string ⟨#[]⟩, .int .i64 0, .string ⟨#[]⟩, .slice none 0 0, .int .i64 0, .string ⟨#[]⟩, .slice none 0 0, .slice none 0 0]) := Lib.hid (Blk.go (Blk.new W3.drew _ _) hb9); have hgn := Nat.le_refl W3.heap.size; have hna := Nat.ne_of_gt (Nat.lt_of_lt_of_le hlq hgn); have hnb := hna.symm; have tk := BN.out.nine; have yn0 := tk.c0; have yn1 := tk.c1; have yn2 := tk.c2; have yn3 := tk.c3; have yn4 := tk.c4; have yn5 := tk.c5; have yn6 := tk.c6; have yn7 := tk.c7; have yn8 := tk.c8; clear tk; have tk := BN.out.free9; have fn0 := tk.c0; have fn1 := tk.c1; have fn2 := tk.c2; have fn3 := tk.c3; have fn4 := tk.c4; have fn5 := tk.c5; have fn6 := tk.c6; have fn7 := tk.c7; have fn8 := tk.c8; clear tk; have HQ1 := Lib.hid (bel_go (HQ0.out.alloc HQ0.out.size (.cells #[.int .i64 0, .string ⟨#[]⟩, .int .i64 0, .string ⟨#[]⟩, .slice none 0 0, .int .i64 0, .string ⟨#[]⟩, .slice none 0 0, .slice none 0 0] 27)) hb9); clear hb9; have tk := (BQ.out.below HQ1.out BQ.out.lt).nine; have z0 := tk.c0; have z1 := tk.c1; have z2 := tk.c2; have z3 := tk.c3; have z4 := tk.c4; have z5 := tk.c5; have z6 := tk.c6; have z7 := tk.c7; have z8 := tk.c8; clear tk) | (go_at_call 23; refine (pred_any ⟨#[112]⟩ (by decide) none 0 0 _).mono ?_; rintro e w9 ⟨rfl, hb9⟩;  have HQ1 := Lib.hid (bel_go (by first | exact HQ1.out | exact HQ0.out) hb9); clear hb9; have tk := (BQ.out.below HQ1.out BQ.out.lt).nine; have z0 := tk.c0; have z1 := tk.c1; have z2 := tk.c2; have z3 := tk.c3; have z4 := tk.c4; have z5 := tk.c5; have z6 := tk.c6; have z7 := tk.c7; have z8 := tk.c8; clear tk) | (go_at_call 6; have hs1 := HQ1.out.size; have hbl := BN.out.lt; refine Calls.mono (nnf_ex4 (gA := w9.heap.size) (W3.heap.size) HQF.out h3 ?_ ?_ ?_ ?_ ?_ ?_) ?_; (focus ((repeat' (first | (exact HQ1.out) | (refine Below.alloc ?_ ?_ _) | omega | (simp; done) | (simp; omega))); done)); (focus ((repeat' (first | (refine Blk.new' _ _ _ _ ?_; (simp; done)) | (exact BN.out) | (refine Blk.alloc ?_ _))); done)); (focus ((repeat' (first | (refine Blk.new' _ _ _ _ ?_; (simp; done)) | (exact BN.out) | (refine Blk.alloc ?_ _))); done)); (focus ((first | omega | (simp; done) | (simp; omega) | (refine ⟨?_, ?_⟩ <;> first | omega | (simp; done) | (simp; omega))); done)); (focus ((first | omega | (simp; done) | (simp; omega) | (refine ⟨?_, ?_⟩ <;> first | omega | (simp; done) | (simp; omega))); done)); (focus ((first | omega | (simp; done) | (simp; omega) | (refine ⟨?_, ?_⟩ <;> first | omega | (simp; done) | (simp; omega))); done)); rintro e wn ⟨⟨gkp, gnp, gvlp, gflp, galp, gvrp, gfrp, garp, gtsp, gAlp, gclp, gArp, gcrp, gAp, gcp, hgp, rfl, grp⟩, hbn, hkp⟩; have HQ2 := Lib.hid hbn; clear HQ1; have HQ1 := HQ2; clear HQ2; refine (fun (BNx : Blk wn W3.heap.size 27 [.int .i64 0, .string ⟨#[]⟩, .int .i64 0, .string ⟨#[]⟩, .slice none 0 0, .int .i64 0, .string ⟨#[]⟩, .slice none 0 0, .slice none 0 0]) => ?_) (hkp _ _ _ ?_); rotate_left; (focus ((repeat' (first | (refine Blk.new' _ _ _ _ ?_; (simp; done)) | (exact BN.out) | (refine Blk.alloc ?_ _))); done)); clear BN; have BN := Lib.hid BNx; clear BNx; clear hbl; have tk := BN.out.nine; have yn0 := tk.c0; have yn1 := tk.c1; have yn2 := tk.c2; have yn3 := tk.c3; have yn4 := tk.c4; have yn5 := tk.c5; have yn6 := tk.c6; have yn7 := tk.c7; have yn8 := tk.c8; clear tk; have tk := BN.out.free9; have fn0 := tk.c0; have fn1 := tk.c1; have fn2 := tk.c2; have fn3 := tk.c3; have fn4 := tk.c4; have fn5 := tk.c5; have fn6 := tk.c6; have fn7 := tk.c7; have fn8 := tk.c8; clear tk; have Gp := Lib.hid grp; have GGp := Lib.hid hgp; clear grp hgp hbn hkp hs1; have tk := (BQ.out.below HQ1.out BQ.out.lt).nine; have z0 := tk.c0; have z1 := tk.c1; have z2 := tk.c2; have z3 := tk.c3; have z4 := tk.c4; have z5 := tk.c5; have z6 := tk.c6; have z7 := tk.c7; have z8 := tk.c8; clear tk) | (go_at_call 6; have hs1 := HQ1.out.size; refine Calls.mono (nnf_ex4 (gA := w9.heap.size + 1) (w9.heap.size) HQF.out h3 ?_ ?_ ?_ ?_ ?_ ?_) ?_; (focus ((repeat' (first | (exact HQ1.out) | (refine Below.alloc ?_ ?_ _) | omega | (simp; done) | (simp; omega))); done)); (focus ((repeat' (first | (refine Blk.new' _ _ _ _ ?_; (simp; done)) | (exact BN.out) | (refine Blk.alloc ?_ _))); done)); (focus ((repeat' (first | (refine Blk.new' _ _ _ _ ?_; (simp; done)) | (exact BN.out) | (refine Blk.alloc ?_ _))); done)); (focus ((first | omega | (simp; done) | (simp; omega) | (refine ⟨?_, ?_⟩ <;> first | omega | (simp; done) | (simp; omega))); done)); (focus ((first | omega | (simp; done) | (simp; omega) | (refine ⟨?_, ?_⟩ <;> first | omega | (simp; done) | (simp; omega))); done)); (focus ((first | omega | (simp; done) | (simp; omega) | (refine ⟨?_, ?_⟩ <;> first | omega | (simp; done) | (simp; omega))); done)); rintro e wn ⟨⟨gkp, gnp, gvlp, gflp, galp, gvrp, gfrp, garp, gtsp, gAlp, gclp, gArp, gcrp, gAp, gcp, hgp, rfl, grp⟩, hbn, hkp⟩; have HQ2 := Lib.hid hbn; clear HQ1; have HQ1 := HQ2; clear HQ2; refine (fun (BNx : Blk wn w9.heap.size 27 [.int .i64 0, .string ⟨#[]⟩, .int .i64 0, .string ⟨#[]⟩, .slice none 0 0, .int .i64 0, .string ⟨#[]⟩, .slice none 0 0, .slice none 0 0]) => ?_) (hkp _ _ _ ?_); rotate_left; (focus ((repeat' (first | (refine Blk.new' _ _ _ _ ?_; (simp; done)) | (exact BN.out) | (refine Blk.alloc ?_ _))); done)); have BN := Lib.hid BNx; clear BNx; have hgn : W3.heap.size ≤ w9.heap.size := (by omega); have hna := Nat.ne_of_gt (Nat.lt_of_lt_of_le hlq hgn); have hnb := hna.symm; have tk := BN.out.nine; have yn0 := tk.c0; have yn1 := tk.c1; have yn2 := tk.c2; have yn3 := tk.c3; have yn4 := tk.c4; have yn5 := tk.c5; have yn6 := tk.c6; have yn7 := tk.c7; have yn8 := tk.c8; clear tk; have tk := BN.out.free9; have fn0 := tk.c0; have fn1 := tk.c1; have fn2 := tk.c2; have fn3 := tk.c3; have fn4 := tk.c4; have fn5 := tk.c5; have fn6 := tk.c6; have fn7 := tk.c7; have fn8 := tk.c8; clear tk; have Gp := Lib.hid grp; have GGp := Lib.hid hgp; clear grp hgp hbn hkp hs1; have tk := (BQ.out.below HQ1.out BQ.out.lt).nine; have z0 := tk.c0; have z1 := tk.c1; have z2 := tk.c2; have z3 := tk.c3; have z4 := tk.c4; have z5 := tk.c5; have z6 := tk.c6; have z7 := tk.c7; have z8 := tk.c8; clear tk) | (go_at_call 6; have hs1 := HQ1.out.size; refine Calls.mono (nnf_ex4 (gA := w9.heap.size) ((w9.heap.size + 1)) HQF.out h3 ?_ ?_ ?_ ?_ ?_ ?_) ?_; (focus ((repeat' (first | (exact HQ1.out) | (refine Below.alloc ?_ ?_ _) | omega | (simp; done) | (simp; omega))); done)); (focus ((repeat' (first | (refine Blk.new' _ _ _ _ ?_; (simp; done)) | (exact BN.out) | (refine Blk.alloc ?_ _))); done)); (focus ((repeat' (first | (refine Blk.new' _ _ _ _ ?_; (simp; done)) | (exact BN.out) | (refine Blk.alloc ?_ _))); done)); (focus ((first | omega | (simp; done) | (simp; omega) | (refine ⟨?_, ?_⟩ <;> first | omega | (simp; done) | (simp; omega))); done)); (focus ((first | omega | (simp; done) | (simp; omega) | (refine ⟨?_, ?_⟩ <;> first | omega | (simp; done) | (simp; omega))); done)); (focus ((first | omega | (simp; done) | (simp; omega) | (refine ⟨?_, ?_⟩ <;> first | omega | (simp; done) | (simp; omega))); done)); rintro e wn ⟨⟨gkp, gnp, gvlp, gflp, galp, gvrp, gfrp, garp, gtsp, gAlp, gclp, gArp, gcrp, gAp, gcp, hgp, rfl, grp⟩, hbn, hkp⟩; have HQ2 := Lib.hid hbn; clear HQ1; have HQ1 := HQ2; clear HQ2; refine (fun (BNx : Blk wn (w9.heap.size + 1) 27 [.int .i64 0, .string ⟨#[]⟩, .int .i64 0, .string ⟨#[]⟩, .slice none 0 0, .int .i64 0, .string ⟨#[]⟩, .slice none 0 0, .slice none 0 0]) => ?_) (hkp _ _ _ ?_); rotate_left; (focus ((repeat' (first | (refine Blk.new' _ _ _ _ ?_; (simp; done)) | (exact BN.out) | (refine Blk.alloc ?_ _))); done)); have BN := Lib.hid BNx; clear BNx; have hgn : W3.heap.size ≤ (w9.heap.size + 1) := (by omega); have hna := Nat.ne_of_gt (Nat.lt_of_lt_of_le hlq hgn); have hnb := hna.symm; have tk := BN.out.nine; have yn0 := tk.c0; have yn1 := tk.c1; have yn2 := tk.c2; have yn3 := tk.c3; have yn4 := tk.c4; have yn5 := tk.c5; have yn6 := tk.c6; have yn7 := tk.c7; have yn8 := tk.c8; clear tk; have tk := BN.out.free9; have fn0 := tk.c0; have fn1 := tk.c1; have fn2 := tk.c2; have fn3 := tk.c3; have fn4 := tk.c4; have fn5 := tk.c5; have fn6 := tk.c6; have fn7 := tk.c7; have fn8 := tk.c8; clear tk; have Gp := Lib.hid grp; have GGp := Lib.hid hgp; clear grp hgp hbn hkp hs1; have tk := (BQ.out.below HQ1.out BQ.out.lt).nine; have z0 := tk.c0; have z1 := tk.c1; have z2 := tk.c2; have z3 := tk.c3; have z4 := tk.c4; have z5 := tk.c5; have z6 := tk.c6; have z7 := tk.c7; have z8 := tk.c8; clear tk) | (go_at_call 6; have hs1 := HQ1.out.size; refine Calls.mono (nnf_ex4 (gA := w9.heap.size) ((w9.heap.size + 1 + 1)) HQF.out h3 ?_ ?_ ?_ ?_ ?_ ?_) ?_; (focus ((repeat' (first | (exact HQ1.out) | (refine Below.alloc ?_ ?_ _) | omega | (simp; done) | (simp; omega))); done)); (focus ((repeat' (first | (refine Blk.new' _ _ _ _ ?_; (simp; done)) | (exact BN.out) | (refine Blk.alloc ?_ _))); done)); (focus ((repeat' (first | (refine Blk.new' _ _ _ _ ?_; (simp; done)) | (exact BN.out) | (refine Blk.alloc ?_ _))); done)); (focus ((first | omega | (simp; done) | (simp; omega) | (refine ⟨?_, ?_⟩ <;> first | omega | (simp; done) | (simp; omega))); done)); (focus ((first | omega | (simp; done) | (simp; omega) | (refine ⟨?_, ?_⟩ <;> first | omega | (simp; done) | (simp; omega))); done)); (focus ((first | omega | (simp; done) | (simp; omega) | (refine ⟨?_, ?_⟩ <;> first | omega | (simp; done) | (simp; omega))); done)); rintro e wn ⟨⟨gkp, gnp, gvlp, gflp, galp, gvrp, gfrp, garp, gtsp, gAlp, gclp, gArp, gcrp, gAp, gcp, hgp, rfl, grp⟩, hbn, hkp⟩; have HQ2 := Lib.hid hbn; clear HQ1; have HQ1 := HQ2; clear HQ2; refine (fun (BNx : Blk wn (w9.heap.size + 1 + 1) 27 [.int .i64 0, .string ⟨#[]⟩, .int .i64 0, .string ⟨#[]⟩, .slice none 0 0, .int .i64 0, .string ⟨#[]⟩, .slice none 0 0, .slice none 0 0]) => ?_) (hkp _ _ _ ?_); rotate_left; (focus ((repeat' (first | (refine Blk.new' _ _ _ _ ?_; (simp; done)) | (exact BN.out) | (refine Blk.alloc ?_ _))); done)); have BN := Lib.hid BNx; clear BNx; have hgn : W3.heap.size ≤ (w9.heap.size + 1 + 1) := (by omega); have hna := Nat.ne_of_gt (Nat.lt_of_lt_of_le hlq hgn); have hnb := hna.symm; have tk := BN.out.nine; have yn0 := tk.c0; have yn1 := tk.c1; have yn2 := tk.c2; have yn3 := tk.c3; have yn4 := tk.c4; have yn5 := tk.c5; have yn6 := tk.c6; have yn7 := tk.c7; have yn8 := tk.c8; clear tk; have tk := BN.out.free9; have fn0 := tk.c0; have fn1 := tk.c1; have fn2 := tk.c2; have fn3 := tk.c3; have fn4 := tk.c4; have fn5 := tk.c5; have fn6 := tk.c6; have fn7 := tk.c7; have fn8 := tk.c8; clear tk; have Gp := Lib.hid grp; have GGp := Lib.hid hgp; clear grp hgp hbn hkp hs1; have tk := (BQ.out.below HQ1.out BQ.out.lt).nine; have z0 := tk.c0; have z1 := tk.c1; have z2 := tk.c2; have z3 := tk.c3; have z4 := tk.c4; have z5 := tk.c5; have z6 := tk.c6; have z7 := tk.c7; have z8 := tk.c8; clear tk) | (go_at_call 6; have hs1 := HQ1.out.size; refine Calls.mono (nnf_ex3 (gA := w9.heap.size) HQF.out h3 ?_ ?_ ?_ ?_ ?_) ?_; (focus ((repeat' (first | (exact HQ1.out) | (refine Below.alloc ?_ ?_ _) | omega | (simp; done) | (simp; omega))); done)); (focus ((repeat' (first | (refine Blk.new' _ _ _ _ ?_; (simp; done)) | (exact BN.out) | (refine Blk.alloc ?_ _))); done)); (focus ((repeat' (first | (refine Blk.new' _ _ _ _ ?_; (simp; done)) | (exact BN.out) | (refine Blk.alloc ?_ _))); done)); (focus ((first | omega | (simp; done) | (simp; omega) | (refine ⟨?_, ?_⟩ <;> first | omega | (simp; done) | (simp; omega))); done)); (focus ((first | omega | (simp; done) | (simp; omega) | (refine ⟨?_, ?_⟩ <;> first | omega | (simp; done) | (simp; omega))); done)); rintro e wn ⟨⟨gkp, gnp, gvlp, gflp, galp, gvrp, gfrp, garp, gtsp, gAlp, gclp, gArp, gcrp, gAp, gcp, hgp, rfl, grp⟩, hbn, hkp⟩; have HQ2 := Lib.hid hbn; clear HQ1; have HQ1 := HQ2; clear HQ2;  have Gp := Lib.hid grp; have GGp := Lib.hid hgp; clear grp hgp hbn hkp hs1; have tk := (BQ.out.below HQ1.out BQ.out.lt).nine; have z0 := tk.c0; have z1 := tk.c1; have z2 := tk.c2; have z3 := tk.c3; have z4 := tk.c4; have z5 := tk.c5; have z6 := tk.c6; have z7 := tk.c7; have z8 := tk.c8; clear tk))) | fail "held")
    all_goals
      go_wp2_with fail
      go_meet
      first
      | exact ⟨_, _, _, _, _, _, _, _, _, _, _, _, _, _, _, _, rfl, rfl, HQ1.out.size, Blk.new _ _ _, GGp.out, r3 Gp.out (Stay.al _), HQ1.out.alloc HQ1.out.size _⟩
      | exact ⟨_, _, _, _, _, _, _, _, _, _, _, _, _, _, _, _, rfl, rfl, hgn, blk9 BN.out _ _ _ _ _ _ _ _ _, GGp.out, r3 Gp.out ((Stay.set9 (fun h => h.2 rfl) _ _ _ _ _ _ _ _ _).trans (Stay.mono fun b h => h.1)), ((((((((HQ1.out.setCell hgn _).setCell hgn _).setCell hgn _).setCell hgn _).setCell hgn _).setCell hgn _).setCell hgn _).setCell hgn _).setCell hgn _⟩
  case rest =>
    obtain ⟨g, gkp, gnp, gvlp, gflp, galp, gvrp, gfrp, garp, gtsp, gAlp, gclp, gArp, gcrp, gAp, gcp, rfl, rfl, hgn, BF, hgp, hrp, hbx⟩ := hcut
    clear HQF HQ0 BQ z0 z1 z2 z3 z4 z5 z6 z7 z8
    rw [ex3] at hgp
    have hgk : gkp = 4 ∧ gtsp = [Fm.one 2 ⟨#[]⟩ (atF 112 []), Fm.one 8 ⟨#[88]⟩ (Fm.one 2 ⟨#[]⟩ (atF 113 [tX]))] := by
      injection hgp with a1 a2 a3 a4 a5
      exact ⟨a1.symm, a5.symm⟩
    obtain ⟨rfl, rfl⟩ := hgk
    clear hgp
    obtain ⟨kb, ko, rfl, hk0, hk1⟩ := kid_kind2 hrp.2.2
    have hBx := bel_go HB3.out hbx
    clear hrp hbx HB3
    have BF := Lib.hid BF
    have HBX := Lib.hid hBx
    have HK1 := Lib.hid hk1
    clear hk0 hk1 hBx
    have hww := HBX.out.size
    generalize hWc : wc = W4 at *
    clear hWc
    have HB4 := Lib.hid (Below.alloc (Below.refl _ W4) (Nat.le_refl _) (.cells #[.int .i64 0, .string ⟨#[88]⟩, .slice none 0 0] 24))
    go_wp2_with fail
    refine (pred_any ⟨#[112]⟩ (by decide) (some ⟨W4.heap.size, 0, none⟩) 1 1 _).mono ?_
    rintro e w5 ⟨rfl, hb5⟩
    have BX5 := Lib.hid ((Blk.new W4 24 [.int .i64 0, .string ⟨#[88]⟩, .slice none 0 0]).go hb5)
    have HB5 := Lib.hid (bel_go HB4.out hb5)
    clear hb5 HB4
    go_wp2_with fail
    refine (pred_any ⟨#[113]⟩ (by decide) none 0 0 _).mono ?_
    rintro e w6 ⟨rfl, hb6⟩
    have BX6 := Lib.hid (BX5.out.go hb6)
    have HB6 := Lib.hid (bel_go HB5.out hb6)
    clear hb6 HB5 BX5
    have hs6 := HB6.out.size
    have hx6 := BX6.out.lt
    go_wp2_with fail
    refine Calls.mono (mini_ex3 (N := w.heap.size) (gA := w6.heap.size) (gx := W4.heap.size) ?_ ?_ ?_ ?_ ?_ ?_ ?_) ?_
    · exact (BX6.out.alloc _).alloc _
    · refine Blk.new' _ _ _ _ ?_; simp
    · refine Blk.alloc ?_ _; refine Blk.new' _ _ _ _ ?_; simp
    · omega
    · omega
    · omega
    · simp; omega
    rintro e wm ⟨⟨gkq, gnq, gvlq, gflq, galq, gvrq, gfrq, garq, gtsq, gAlq, gclq, gArq, gcrq, gAq, gcq, hgq, rfl, grq⟩, hbm⟩
    rw [ex4] at hgq
    have hgk : gkq = 4 ∧ gtsq = [Fm.one 7 ⟨#[88]⟩ (atF 112 [tX]), atF 113 []] := by
      injection hgq with a1 a2 a3 a4 a5
      exact ⟨a1.symm, a5.symm⟩
    obtain ⟨rfl, rfl⟩ := hgk
    clear hgq
    obtain ⟨mb, mo, rfl, hm0, hm1⟩ := kid_kind2 grq.2.2
    clear grq hm1
    have HBm := Lib.hid (bel_go ((HB6.out.alloc HB6.out.size _).alloc (by simp; omega) _) hbm)
    clear hbm BX6 HB6 hs6 hx6
    go_upto_region 4 with (fail)
    have HB7 : Hid (Below W4.heap.size W4 (wm.alloc (.cells #[.int .i64 4, .string gnq, .int .i64 gvlq, .string gflq, .slice gAlq galq.length gclq, .int .i64 gvrq, .string gfrq, .slice gArq garq.length gcrq, .slice (some ⟨mb, mo, none⟩) 2 gcq] 27))) := Lib.hid (Below.alloc HBm.out HBm.out.size _)
    have x0 : (wm.alloc (.cells #[.int .i64 4, .string gnq, .int .i64 gvlq, .string gflq, .slice gAlq galq.length gclq, .int .i64 gvrq, .string gfrq, .slice gArq garq.length gcrq, .slice (some ⟨mb, mo, none⟩) 2 gcq] 27)).cell? ⟨mb, mo, none⟩ = some (.int .i64 7) := keepc (Below.alloc (Below.refl _ wm) (Nat.le_refl _) _) hm0
    have x1 : (wm.alloc (.cells #[.int .i64 4, .string gnq, .int .i64 gvlq, .string gflq, .slice gAlq galq.length gclq, .int .i64 gvrq, .string gfrq, .slice gArq garq.length gcrq, .slice (some ⟨mb, mo, none⟩) 2 gcq] 27)).cell? ⟨kb, ko + 9, none⟩ = some (.int .i64 8) := keepc HB7.out HK1.out
    have BF2 : Hid (Blk (wm.alloc (.cells #[.int .i64 4, .string gnq, .int .i64 gvlq, .string gflq, .slice gAlq galq.length gclq, .int .i64 gvrq, .string gfrq, .slice gArq garq.length gcrq, .slice (some ⟨mb, mo, none⟩) 2 gcq] 27)) g 27 [.int .i64 4, .string gnp, .int .i64 gvlp, .string gflp, .slice gAlp galp.length gclp, .int .i64 gvrp, .string gfrp, .slice gArp garp.length gcrp, .slice (some ⟨kb, ko, none⟩) 2 gcp]) := Lib.hid (BF.out.below HB7.out BF.out.lt)
    have BM : Hid (Blk (wm.alloc (.cells #[.int .i64 4, .string gnq, .int .i64 gvlq, .string gflq, .slice gAlq galq.length gclq, .int .i64 gvrq, .string gfrq, .slice gArq garq.length gcrq, .slice (some ⟨mb, mo, none⟩) 2 gcq] 27)) wm.heap.size 27 [.int .i64 4, .string gnq, .int .i64 gvlq, .string gflq, .slice gAlq galq.length gclq, .int .i64 gvrq, .string gfrq, .slice gArq garq.length gcrq, .slice (some ⟨mb, mo, none⟩) 2 gcq]) := Lib.hid (Blk.new _ _ _)
    have hB := bel_go HBX.out HB7.out
    clear BF HK1 HBm HB7 hm0 HBX
    generalize hgm : wm.heap.size = gm at *
    generalize hWw : wm.alloc (.cells #[.int .i64 4, .string gnq, .int .i64 gvlq, .string gflq, .slice gAlq galq.length gclq, .int .i64 gvrq, .string gfrq, .slice gArq garq.length gcrq, .slice (some ⟨mb, mo, none⟩) 2 gcq] 27) = W8 at *
    clear hgm hWw
    have tk := BF2.out.nine; have y0 := tk.c0; have y1 := tk.c1; have y2 := tk.c2; have y3 := tk.c3; have y4 := tk.c4; have y5 := tk.c5; have y6 := tk.c6; have y7 := tk.c7; have y8 := tk.c8; clear tk
    have tk := BM.out.nine; have m0 := tk.c0; have m1 := tk.c1; have m2 := tk.c2; have m3 := tk.c3; have m4 := tk.c4; have m5 := tk.c5; have m6 := tk.c6; have m7 := tk.c7; have m8 := tk.c8; clear tk
    go_wp2_with fail
    exact bodyPost_ret (v := .bool true) (by simp [results, Tryz.results9]) rfl ⟨rfl, hB⟩
end Go.Proofs.YtndjjnnljihmnaaGreat
