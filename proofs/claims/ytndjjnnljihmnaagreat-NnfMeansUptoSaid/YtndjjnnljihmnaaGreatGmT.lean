/- The value of a formula's term. -/
import Derived.Test.YtndjjnnljihmnaaGreatGmS
import Derived.Test.YtndjjnnljihmnaaGreatGmV
namespace Go.Proofs.YtndjjnnljihmnaaGreat
open Go.RowKit Go.Proofs.YtndjjnnljihmnaaGreat.Lx
set_option linter.unusedVariables false
set_option linter.unusedSimpArgs false
attribute [local go_sem ↓] app_block
/-- What names are, in memory. -/
def Ths (w : World) (A : Option Addr) (l : List (ByteArray × Int)) : Prop := 0 < l.length → ∃ g o, A = some ⟨g, o, none⟩ ∧ ∀ (j : Nat) (h : j < l.length), w.cell? ⟨g, o + j * 2, none⟩ = some (.string l[j].1) ∧ w.cell? ⟨g, o + j * 2 + 1, none⟩ = some (.int .i64 l[j].2)
theorem Ths.below {w w' : World} {A : Option Addr} {l : List (ByteArray × Int)} (h : Ths w A l) (hb : Below w.heap.size w w') : Ths w' A l := fun h0 => by
  obtain ⟨g, o, e, hc⟩ := h h0
  exact ⟨g, o, e, fun j hj => ⟨(hb.cell (p := ⟨g, o + j * 2, none⟩) (World.block_lt_of_cell? w _ (hc j hj).1)).trans (hc j hj).1, (hb.cell (p := ⟨g, o + j * 2 + 1, none⟩) (World.block_lt_of_cell? w _ (hc j hj).2)).trans (hc j hj).2⟩⟩
/-- What a name is: the last that is told of it; 0, where nothing is. -/
def envL (l : List (ByteArray × Int)) : ByteArray → Int := l.foldl (fun e p => upd e p.1 p.2) (fun _ => 0)
theorem envL_snoc (l : List (ByteArray × Int)) (p : ByteArray × Int) : envL (l ++ [p]) = upd (envL l) p.1 p.2 := by unfold envL; rw [List.foldl_append]; rfl
theorem envL_take (l : List (ByteArray × Int)) (k : Nat) (h : k < l.length) (f : ByteArray) : envL (l.take (k + 1)) f = if f = l[k].1 then l[k].2 else envL (l.take k) f := by
  rw [List.take_succ_eq_append_getElem h, envL_snoc]; rfl
theorem vals_map (pk : ByteArray → List Int → Int) (e : ByteArray → Int) : ∀ ts : List Tm, Tm.vals pk e ts = ts.map (Tm.val pk e)
  | [] => by rw [Tm.vals]; rfl
  | t :: r => by rw [Tm.vals, vals_map pk e r]; rfl
theorem seq_same (a b : ByteArray) : seq a b = true ↔ a = b := by
  unfold seq
  rw [beq_iff_eq, Lib.toList_data, Lib.toList_data]
  refine ⟨fun h => ?_, fun h => by rw [h]⟩
  obtain ⟨⟨a⟩⟩ := a
  obtain ⟨⟨b⟩⟩ := b
  have e : a = b := h
  rw [e]
theorem infoT : (Tryz.prog.info? 24).map (fun i => (i.zero, i.size, i.bytes)) = some (some (.agg #[.int .i64 0, .string ⟨#[]⟩, .slice none 0 0]), 3, 48) := by kernel_rfl
/-- A variable appended. -/
theorem app_term {W : World} {base n : Nat} {v : Value} {xs : List Value} (HO : W.ownsRow base 24 3 v n xs) (hk : n ≤ 1099511627776) (hb : base ≤ W.heap.size) (i : Int) :
    ∃ v' w', (appOp #[22, 22] 22 #[v, .slice (some ⟨W.heap.size, 0, none⟩) 1 1]).run Tryz.prog (W.alloc (.cells #[.int .i64 i, .string ⟨#[]⟩, .slice none 0 0] 24)) = .ok v' w' ∧ w'.ownsRow base 24 3 v' (n + 1) (xs ++ [.int .i64 i, .string ⟨#[]⟩, .slice none 0 0]) ∧ (W.alloc (.cells #[.int .i64 i, .string ⟨#[]⟩, .slice none 0 0] 24)).grownBy w' v.ownBlock ∧ (v'.ownBlock = v.ownBlock ∨ v'.ownBlock = some (W.heap.size + 1)) := by
  obtain ⟨i0, hi, hz0, hz1, hz2⟩ := info_parts infoT
  obtain ⟨v', w', h1, h2, h3, _, h5⟩ := run_append_own_at (P := Tryz.prog) (W.alloc (.cells #[.int .i64 i, .string ⟨#[]⟩, .slice none 0 0] 24)) base 22 22 24 i0 _ 3 48 Tryz.underlying22 hi hz0 hz1 hz2 rfl (by decide) v n xs (HO.alloc _) ⟨W.heap.size, 0, none⟩ 1 1 [.int .i64 i, .string ⟨#[]⟩, .slice none 0 0] rfl
    (World.news_of_block (cs := #[.int .i64 i, .string ⟨#[]⟩, .slice none 0 0]) (t := 24) (fr := (0, 0)) (heap_alloc_new W _))
    (by intro u hu; simp at hu; rcases hu with rfl | rfl | rfl <;> rfl) (by unfold maxLen; omega) (by omega) (by simp; omega)
  exact ⟨v', w', h1, h2, h3, by simpa using h5⟩
def tcells (n : Nat) : List Value := (List.range n).flatMap fun (j : Nat) => [.int .i64 (j : Int), .string ⟨#[]⟩, .slice none 0 0]
theorem tcells_succ (n : Nat) : tcells (n + 1) = tcells n ++ [.int .i64 n, .string ⟨#[]⟩, .slice none 0 0] := by simp [tcells, List.range_succ]
theorem tcells_len : ∀ n : Nat, (tcells n).length = 3 * n
  | 0 => rfl
  | n + 1 => by rw [tcells_succ, List.length_append, tcells_len n]; simp; omega
theorem tcells_get : ∀ (n j : Nat), j < n → (tcells n)[3 * j]? = some (.int .i64 j) ∧ (tcells n)[3 * j + 1]? = some (.string ⟨#[]⟩) ∧ (tcells n)[3 * j + 2]? = some (.slice none 0 0)
  | n + 1, j, h => by
    have hl := tcells_len n
    rw [tcells_succ]
    by_cases hj : j < n
    · obtain ⟨h1, h2, h3⟩ := tcells_get n j hj
      rw [List.getElem?_append_left (by omega), List.getElem?_append_left (by omega), List.getElem?_append_left (by omega)]
      exact ⟨h1, h2, h3⟩
    · obtain rfl : j = n := by omega
      rw [List.getElem?_append_right (by omega), List.getElem?_append_right (by omega), List.getElem?_append_right (by omega), hl, show 3 * j - 3 * j = 0 by omega, show 3 * j + 1 - 3 * j = 1 by omega, show 3 * j + 2 - 3 * j = 2 by omega]
      exact ⟨rfl, rfl, rfl⟩
theorem rts_of {S : Nat → Prop} {W : World} {g : Nat} : ∀ (m i : Nat), (∀ j, i ≤ j → j < i + m → W.cell? ⟨g, 3 * j, none⟩ = some (.int .i64 j) ∧ W.cell? ⟨g, 3 * j + 1, none⟩ = some (.string ⟨#[]⟩) ∧ W.cell? ⟨g, 3 * j + 2, none⟩ = some (.slice none 0 0)) → RTs S W g (3 * i) ((List.range' i m).map fun (j : Nat) => Tm.mk (j : Int) ⟨#[]⟩ [])
  | 0, i, _ => by rw [List.range'_zero, List.map_nil, RTs]; trivial
  | m + 1, i, h => by
    rw [List.range'_succ, List.map_cons, RTs]
    refine ⟨⟨_, RT.shut _ _ (ST.nil S W 0), ?_⟩, ?_⟩
    · obtain ⟨h1, h2, h3⟩ := h i (Nat.le_refl _) (by omega)
      intro k u hu
      match k, hu with
      | 0, hu => cases hu; exact h1
      | 1, hu => cases hu; exact h2
      | 2, hu => cases hu; exact h3
    · rw [show 3 * i + 3 = 3 * (i + 1) by omega]
      exact rts_of m (i + 1) (fun j h1 h2 => h j (by omega) (by omega))
theorem row_st {W : World} {base n : Nat} {v : Value} (h : W.ownsRow base 24 3 v n (tcells n)) (hn : n ≤ 9223372036854775807) : ∃ A c, v = .slice A n c ∧ ST (fun _ => True) W A n c (vars n) := by
  obtain ⟨A, c, rfl⟩ := row_slice h
  by_cases h0 : 0 < n
  · obtain ⟨g, c', e, hc, _, hcell⟩ := row_cells h h0
    injection e with e1 _ e2
    subst e1 e2
    refine ⟨_, _, rfl, by simp [vars], hc, hn, fun _ => ⟨g, 0, rfl, trivial, ?_⟩⟩
    have := rts_of (S := fun _ => True) (W := W) (g := g) n 0 (fun j _ hj => by
      obtain ⟨h1, h2, h3⟩ := tcells_get n j (by omega)
      exact ⟨hcell _ _ h1, hcell _ _ h2, hcell _ _ h3⟩)
    unfold vars
    rw [List.range_eq_range']
    exact this
  · obtain rfl : n = 0 := by omega
    exact ⟨A, c, rfl, rfl, by omega, hn, fun h => absurd h (by omega)⟩
def ValAt (fn : Nat) (N : Nat) : Prop := ∀ (v : Int) (f : ByteArray) (ts : List Tm) (S : Nat → Prop) (w : World) (At : Option Addr) (ct : Nat) (B : Option Addr) (cB : Nat) (l : List (ByteArray × Int)) (s : Int) (A : Option Addr) (c : Nat) (rl : List Int), (Tm.mk v f ts).wt ≤ N → (Tm.mk v f ts).wt ≤ 1099511627776 → 1 ≤ s ∧ s ≤ 3 → 0 < rl.length ∧ rl.length ≤ 64 → Nts w A rl → Ths w B l → l.length ≤ 1099511627776 → ST S w At ts.length ct ts →
    Calls Tryz.prog fn #[.agg #[.int .i64 s, .slice A rl.length c], .agg #[.int .i64 v, .string f, .slice At ts.length ct], .slice B l.length cB] w fun e w' => e = .returned (.int .i64 ((Tm.mk v f ts).val (pkW s rl) (envL l))) ∧ Below w.heap.size w w'
theorem len_wts (ts : List Tm) : ts.length ≤ Tm.wts ts := Tm.len_wts ts
set_option maxRecDepth 100000 in
set_option maxHeartbeats 6400000 in
theorem val0 : ∀ N, ValAt 31 N := by
  intro N
  induction N with
  | zero => intro v f ts S w At ct B cB l s A c rl h; rw [Tm.wt] at h; omega
  | succ N ih =>
    intro v f ts S w At ct B cB l s A c rl h hB hs hr hN hA hl ht
    have hw : 1 + f.size + Tm.wts ts ≤ N + 1 := by rw [Tm.wt] at h; exact h
    have hw2 : 1 + f.size + Tm.wts ts ≤ 1099511627776 := by rw [Tm.wt] at hB; exact hB
    have hln := Tm.len_wts ts
    have hlen : ts.length ≤ 1152921504606846976 := by omega
    have hll : l.length ≤ 1152921504606846976 := by omega
    have HW := Lib.hid (And.intro hw hw2)
    have HIH := Lib.hid ih
    have HLN := Lib.hid hln
    have HV : Hid ((Tm.mk v f ts).val (pkW s rl) (envL l) = if isVarB (bs f) && ts.length == 0 then envL l f else pkW s rl f (ts.map (Tm.val (pkW s rl) (envL l)))) := Lib.hid (by rw [Tm.val, vals_map])
    generalize (Tm.mk v f ts).val (pkW s rl) (envL l) = res at *
    generalize hWW : (w.alloc (.cells #[.int .i64 s, .slice A rl.length c] 36)).alloc (.cells #[.int .i64 v, .string f, .slice At ts.length ct] 24) = W
    have HB0 : Hid (Below w.heap.size w W) := Lib.hid (by rw [← hWW]; exact bel_two)
    have B0 : Hid (Blk W w.heap.size 36 [.int .i64 s, .slice A rl.length c]) := Lib.hid (by rw [← hWW]; exact (Blk.new w 36 [.int .i64 s, .slice A rl.length c]).alloc _)
    have B1 : Hid (Blk W (w.heap.size + 1) 24 [.int .i64 v, .string f, .slice At ts.length ct]) := Lib.hid (by rw [← hWW]; exact Blk.new' _ (w.heap.size + 1) 24 [.int .i64 v, .string f, .slice At ts.length ct] (by simp))
    have HZ : Hid (W.heap.size = w.heap.size + 1 + 1) := Lib.hid (by rw [← hWW]; simp)
    have HWW := Lib.hid hWW
    clear hWW
    have HA := Lib.hid (hA.below HB0.out)
    have HN := Lib.hid (hN.below HB0.out)
    have HS := Lib.hid hs
    have HR0 := Lib.hid hr
    have HT := Lib.hid (ht.stay (Stay.below HB0.out))
    have HIV := Lib.hid (fun w' => risVar_any f w' (by omega))
    have HL2 := Lib.hid hl
    clear hA hs hN hr ht h hB hw hw2 hln ih hl
    go_enter Tryz.func31, Tryz.ntmps31
    go_upto_region 1 with (fail)
    rw [HWW.out]
    have z0 := B0.out.cell 0
    have z1 := B0.out.cell 1
    have y0 := B1.out.cell 0
    have y1 := B1.out.cell 1
    have y2 := B1.out.cell 2
    simp only [List.getElem?_cons_zero, List.getElem?_cons_succ] at z0 z1 y0 y1 y2
    by_cases hv : isVarB (bs f) = true ∧ ts.length = 0
    · obtain ⟨hv, h0⟩ := hv
      have HR : Hid (res = envL l f) := Lib.hid (by rw [HV.out, if_pos (by rw [hv, h0]; rfl)])
      go_wp2_with fail
      refine (HIV.out _).mono ?_
      rw [hv]
      rintro e w2 ⟨rfl, rfl⟩
      go_wp2_with fail
      go_loopw [7] (fun vi wl => ∃ i : Nat, i ≤ l.length ∧ vi = .int .i64 ((i : Int) - 1) ∧ envL l f = envL (l.take i) f ∧ Below W.heap.size W wl) (fun vi _ => (intOf vi + 1).toNat)
      case atStart => exact ⟨l.length, Nat.le_refl _, rfl, by rw [List.take_length], Below.refl _ _⟩
      case round =>
        obtain ⟨i, hi, rfl, he, hb⟩ := hrel
        have HE := Lib.hid he
        have HB := Lib.hid hb
        clear he hb z0 z1 y0 y1 y2
        cases i with
        | zero =>
          have HR1 : Hid (res = 0) := Lib.hid (by rw [HR.out, HE.out]; rfl)
          have HB1 := Lib.hid (bel_go HB0.out HB.out)
          have e1 : (((0 : Nat) : Int) - 1) = -1 := rfl
          rw [e1]
          go_wp2_with fail
          go_ret
          exact ⟨ret_int (by rw [HR1.out]), HB1.out⟩
        | succ k =>
          have e1 : (((k + 1 : Nat) : Int) - 1) = (k : Int) := by omega
          rw [e1]
          obtain ⟨g, o, rfl, hc⟩ := (HA.out.below HB.out) (by omega)
          obtain ⟨p0, p1⟩ := hc k (by omega)
          have he := envL_take l k (by omega) f
          clear hc e1
          have HK := Lib.hid hi
          have hi0 : (0 : Int) ≤ (k : Int) := by omega
          have hi1 : (k : Int) < (l.length : Int) := by omega
          generalize hlk : l[k] = pr at *
          obtain ⟨nm, x⟩ := pr
          simp only [] at p0 p1 he
          have HE2 := Lib.hid (HE.out.trans he)
          clear he hlk
          have C1 := Lib.hid (B1.out.below HB.out B1.out.lt)
          have y1 := C1.out.cell 1
          simp only [List.getElem?_cons_zero, List.getElem?_cons_succ] at y1
          have HQ0 := Lib.hid (bel_drew1 wr)
          go_upto_region 5 with (fail)
          (first | (go_region_held3 (fun w' => w'.cell? ⟨g, o + k * 2, none⟩ = some (.string nm) ∧ w'.cell? ⟨w.heap.size + 1, 1, none⟩ = some (.string f)) (go_keep) (first | fail)) | fail "held")
          all_goals
            have HB1 := Lib.hid (bel_go HB.out HQ0.out)
            go_wp2_with fail
            rotate_left
            · rename_i hx
              have hq : seq nm f = false := hx
              have HR1 := Lib.hid (HE2.out.trans (if_neg (fun e => by rw [(seq_same nm f).2 e.symm] at hq; cases hq)))
              go_roundw
              case rel => exact ⟨k, by have := HK.out; omega, by go_num, HR1.out, HB1.out⟩
              case measure => simp [intOf]
            · rename_i hx
              have hq : seq nm f = true := hx
              have HR1 := Lib.hid (HR.out.trans (HE2.out.trans (if_pos ((seq_same nm f).1 hq).symm)))
              have HB2 := Lib.hid (bel_go HB0.out HB1.out)
              go_ret
              exact ⟨ret_int (by rw [HR1.out]), HB2.out⟩
    · have hcond : (isVarB (bs f) && ts.length == 0) = false := by
        cases hq : isVarB (bs f)
        · rfl
        · simp; exact fun e => hv ⟨hq, by rw [e]; rfl⟩
      have HR : Hid (res = pkW s rl f (ts.map (Tm.val (pkW s rl) (envL l)))) := Lib.hid (by rw [HV.out, if_neg (by rw [hcond]; simp)])
      have h0 : isVarB (bs f) = true → ts.length ≠ 0 := fun h e => hv ⟨h, e⟩
      clear hcond hv HV
      generalize isVarB (bs f) = q1 at *
      cases q1
      case' false =>
        go_wp2_with fail
        refine (HIV.out _).mono ?_
        rintro e w2 ⟨rfl, rfl⟩
        go_upto_region 8 with (fail)
      case' true =>
        have h1 := h0 rfl
        have h2 : ((ts.length : Int) == 0) = false := by simpa using h1
        go_wp2_with fail
        refine (HIV.out _).mono ?_
        rintro e w2 ⟨rfl, rfl⟩
        go_upto_region 8 with (fail)
      all_goals
        go_wp2_with fail
        go_loopw [8, 9, 10] (fun va vt vi wl => ∃ i : Nat, vi = .int .i64 i ∧ i ≤ ts.length ∧ wl.ownsRow W.heap.size 24 3 va i (tcells i) ∧ wl.ownsRow W.heap.size 3 1 vt i (ints ((ts.take i).map (Tm.val (pkW s rl) (envL l)))) ∧ Below W.heap.size W wl) (fun _ _ vi _ => ts.length - (intOf vi).toNat)
        case atStart => exact ⟨0, rfl, by omega, World.ownsRow_nil _ _ _ _, World.ownsRow_nil _ _ _ _, Below.refl _ _⟩
        case round =>
          obtain ⟨i, rfl, hi, hra, hro, hb⟩ := hrel
          obtain ⟨Av, cv, rfl⟩ := row_slice hra
          obtain ⟨Bv, dv, rfl⟩ := row_slice hro
          have HRA := Lib.hid hra
          have HRO := Lib.hid hro
          have HB := Lib.hid hb
          clear hra hro hb z0 z1 y0 y1 y2
          have C0 := Lib.hid (B0.out.below HB.out B0.out.lt)
          have C1 := Lib.hid (B1.out.below HB.out B1.out.lt)
          have z0 := C0.out.cell 0
          have z1 := C0.out.cell 1
          have y0 := C1.out.cell 0
          have y1 := C1.out.cell 1
          have y2 := C1.out.cell 2
          simp only [List.getElem?_cons_zero, List.getElem?_cons_succ] at z0 z1 y0 y1 y2
          by_cases hlt : i < ts.length
          · obtain ⟨va, w3, hrun, hr3, hg3, ho3⟩ := app_term HRA.out (by have := HW.out.2; have := HLN.out; omega) HB.out.size i
            obtain ⟨A3, c3, rfl⟩ := row_slice hr3
            rw [← tcells_succ] at hr3
            have HR3 := Lib.hid hr3
            have hne : ∀ k, (Value.slice Bv i dv).ownBlock = some k → ¬ (Value.slice Av i cv).ownBlock = some k := fun k h1 h2 => by obtain ⟨_, q1⟩ := row_blk HRO.out h1; obtain ⟨_, q2⟩ := row_blk HRA.out h2; exact absurd (blk_type q1 q2) (by decide)
            have HRO3 := Lib.hid (row_fr (HRO.out.alloc (.cells #[.int .i64 i, .string ⟨#[]⟩, .slice none 0 0] 24)) (Fr.of_grown hg3) hne)
            have HB2 := Lib.hid (show Below W.heap.size W w3 from (HB.out.alloc HB.out.size _).trans ((Fr.of_grown hg3).below (B := W.heap.size) (by have h1 := HB.out.size; simp; omega) (fun k hk => row_low HRA.out hk)))
            have HNA := Lib.hid (show ∀ k, (Value.slice Bv i dv).ownBlock = some k → k < w3.heap.size from fun k hk => by obtain ⟨_, q1⟩ := row_blk HRO3.out hk; exact q1.lt)
            clear hr3 hg3 ho3 hne HRA HRO
            go_upto_region 14 with (fail)
            clear hrun z0 z1 y0 y1 y2 C0 C1 HB
            have C0 := Lib.hid (B0.out.below HB2.out B0.out.lt)
            have C1 := Lib.hid (B1.out.below HB2.out B1.out.lt)
            have z0 := C0.out.cell 0
            have z1 := C0.out.cell 1
            have y0 := C1.out.cell 0
            have y1 := C1.out.cell 1
            have y2 := C1.out.cell 2
            simp only [List.getElem?_cons_zero, List.getElem?_cons_succ] at z0 z1 y0 y1 y2
            obtain ⟨b, o, hA, v', f', us, Ai, ci, hm, hs1, p0, p1, p2⟩ := (HT.out.stay (Stay.below HB2.out)).at i hlt
            subst hA
            have hwd : Below w3.heap.size w3 w3.drew := bel_drew1 w3
            have hwi := Tm.wts_le ts i hlt
            rw [hm] at hwi
            have HC := Lib.hid (HIH.out v' f' us S w3.drew Ai ci B cB l s A c rl (by have := HW.out.1; omega) (by have := HW.out.2; omega) HS.out HR0.out ((HN.out.below HB2.out).below hwd) ((HA.out.below HB2.out).below hwd) (by have := HL2.out; omega) (hs1.stay (Stay.below hwd)))
            have HTK : Hid ((ts.take (i + 1)).map (Tm.val (pkW s rl) (envL l)) = (ts.take i).map (Tm.val (pkW s rl) (envL l)) ++ [(Tm.mk v' f' us).val (pkW s rl) (envL l)]) := Lib.hid (by rw [List.take_succ_eq_append_getElem hlt, List.map_append, hm]; rfl)
            have HLT := Lib.hid hlt
            have HQ0 := Lib.hid hwd
            clear hwd hwi hm hs1
            generalize (Tm.mk v' f' us).val (pkW s rl) (envL l) = vi at *
            have hi0 : (0 : Int) ≤ (i : Int) := by omega
            have hi1 : (i : Int) < (ts.length : Int) := by omega
            obtain ⟨i0, hi0', hz0, hz1, hz2⟩ := info_parts infoI
            go_region_law (first | (refine step_append_lies _ (by rfl) _ _ _ (by rfl) W.heap.size 3 i0 _ 1 8 Tryz.underlying34 hi0' hz0 hz1 hz2 rfl (by omega) (.slice Bv i dv) i (ints ((ts.take i).map (Tm.val (pkW s rl) (envL l)))) rfl ((row_fr HRO3.out (Fr.of_below (S := fun _ => False) HB3.out (Nat.le_refl _)) (fun k hk hs => hs)).alloc _) ⟨w2.heap.size, 0, none⟩ 1 1 [.int .i64 vi] rfl rfl (World.news_of_block (cs := #[.int .i64 vi]) (t := 3) (fr := (0, 0)) (heap_alloc_new w2 _)) (by intro u hu; simp at hu; subst hu; rfl) (by omega) (by have := HW.out.2; have := HLN.out; unfold maxLen; omega) (by have := HW.out.2; have := HLN.out; omega) (by have h1 := HB3.out.size; have h2 := HB2.out.size; simp; omega) _ rfl ?_; intro g5 c5 w10 hro5 hgr5 hat5 hlt5; have HRO5 := Lib.hid hro5; have HGR5 := Lib.hid hgr5; have HAT5 := Lib.hid hat5; clear hro5 hgr5 hat5 hlt5) | (go_simp; go_at_call 31; refine HC.out.mono ?_; rintro e w2 ⟨rfl, hb9⟩; have HB3 := Lib.hid (bel_go HQ0.out hb9); clear hb9))
            all_goals
              have HB4 := Lib.hid (show Below W.heap.size W w10 from (((bel_go HB2.out HB3.out).alloc (bel_go HB2.out HB3.out).size (.cells #[.int .i64 vi] 3))).trans ((Fr.of_grown HGR5.out).below (B := W.heap.size) (by have h1 := HB2.out.size; have h2 := HB3.out.size; simp; omega) (fun k hk => row_low HRO3.out hk)))
              have HRO6 := Lib.hid (show w10.ownsRow W.heap.size 3 1 (.slice (some ⟨g5, 0, none⟩) (i + 1) c5) (i + 1) (ints ((ts.take (i + 1)).map (Tm.val (pkW s rl) (envL l)))) by rw [HTK.out, ints_app]; exact HRO5.out)
              have HRA6 := Lib.hid (show w10.ownsRow W.heap.size 24 3 (.slice A3 (i + 1) c3) (i + 1) (tcells (i + 1)) from row_fr ((row_fr HR3.out (Fr.of_below (S := fun _ => False) HB3.out (Nat.le_refl _)) (fun k hk hs => hs)).alloc (.cells #[.int .i64 vi] 3)) (Fr.of_grown HGR5.out) (fun k h1 h2 => by obtain ⟨_, q1⟩ := row_blk HR3.out h1; obtain ⟨_, q2⟩ := row_blk HRO3.out h2; exact absurd (blk_type q1 q2) (by decide)))
              clear HRO5 HGR5 HAT5 HRO3 HB2 HB3 HR3
              go_wp2_with fail
              go_roundw
              case rel => exact ⟨i + 1, by go_num, HLT.out, HRA6.out, HRO6.out, HB4.out⟩
              case measure => have := HLT.out; simp [intOf]; omega
          · obtain rfl : i = ts.length := by omega
            have d1 : decide (ts.length < ts.length) = false := by simp
            have hro := HRO.out
            rw [List.take_length] at hro
            have hml : (ts.map (Tm.val (pkW s rl) (envL l))).length = ts.length := by simp
            obtain ⟨Bv', dv', he, hnt⟩ := row_nts (xs := ts.map (Tm.val (pkW s rl) (envL l))) (by rw [hml]; exact hro)
            rw [hml] at he
            injection he with h1 _ h2
            subst h1 h2
            obtain ⟨Av', cv', he, hst⟩ := row_st HRA.out (by omega)
            injection he with h1 _ h2
            subst h1 h2
            have hbd := HW.out.2
            have hln := HLN.out
            have HP := valueW_any s A c rl f Av cv Bv dv (ts.map (Tm.val (pkW s rl) (envL l))) (fun _ => True) wr HS.out HR0.out (HN.out.below HB.out) hnt (by rw [hml]; omega) (by omega) (by rw [hml]; exact hst)
            rw [hml] at HP
            have HP := Lib.hid HP
            have HBB := Lib.hid (bel_go HB0.out HB.out)
            clear hro hnt hml HRO HRA hst hbd hln
            go_wp2_with fail
            refine HP.out.mono ?_
            rintro e w2 ⟨rfl, hb9⟩
            have HB9 := Lib.hid (bel_go HBB.out hb9)
            clear hb9
            go_wp2_with fail
            go_ret
            exact ⟨ret_int (by rw [HR.out]), HB9.out⟩
end Go.Proofs.YtndjjnnljihmnaaGreat
