/- The walk of the law QuotaBounds. -/
import Derived.Test.YthmllfejnmbfgaaE
namespace Go.Proofs.Ythmllfejnmbfgaa
open Go.RowKit
set_option linter.unusedVariables false
set_option linter.unusedSimpArgs false

theorem new_neg {w : World} (lb lo lc n : Nat) (zs : List Int) (h1 : 1 ≤ n) (h16 : n ≤ 16) (hz : n ≤ zs.length)
    (hc : ∀ j, j < zs.length → w.cell? ⟨lb, lo + j, none⟩ = some (.int .i64 (zs.getD j 0))) (hmin : Lib.minOf (zs.take n) < 0) :
    Calls Try.prog 14 #[.slice (some ⟨lb, lo, none⟩) n lc] w fun e w' => e = .returned (.tuple #[.pointer none, .int .i64 1]) ∧ w = w' := by
  go_enter Try.func14, Try.ntmps14
  go_wp2_with (go_at_call 30; refine (min_any lb lo lc n zs (by omega) hz (by omega) hc).mono ?_; rintro e w' ⟨rfl, rfl⟩)
  go_ret2
  exact ⟨rfl, rfl⟩

theorem own_fr {w w1 : World} {base : Nat} {e : TypeId} {size n : Nat} {v : Value} {xs : List Value} {S : Nat → Prop} (h : w.ownsRow base e size v n xs) (hf : Fr S w w1) (hS : ∀ i, S i → i < base) : w1.ownsRow base e size v n xs := by
  refine ⟨h.1, ?_⟩
  rcases h.2 with ⟨rfl, h0⟩ | ⟨g, cap, cur, rfl, hg, hh, h2⟩
  · exact .inl ⟨rfl, h0⟩
  · refine .inr ⟨g, cap, cur, rfl, hg, ?_, h2⟩
    rw [hf.block g (Array.getElem?_eq_some_iff.1 hh).1 (fun hs => by have := hS g hs; omega)]; exact hh

theorem take1 {b g : Nat} {L U P : Int} {w : World} (n : Int) (ha : Acct w b g [⟨L, U, P⟩]) (hl : 0 ≤ U ∧ U ≤ P ∧ P ≤ L ∧ L ≤ 9223372036854775807) :
    Calls Try.prog 15 #[.pointer (some ⟨b, 0, none⟩), .int .i64 0, .int .i64 n] w fun e w' => ∃ r U' P', e = .returned (.int .i64 r) ∧
      (r = 0 ∧ 0 ≤ n ∧ U' = U + n ∨ 0 < r ∧ U' = U) ∧ (0 ≤ U' ∧ U' ≤ P' ∧ P' ≤ L) ∧ Acct w' b g [⟨L, U', P'⟩] ∧ Fr (· = g) w w' := by
  by_cases hn : n < 0
  · refine (take_neg 0 n (by simp) ha hn).mono ?_
    rintro e w' ⟨rfl, rfl⟩
    exact ⟨1, U, P, rfl, .inr ⟨by omega, rfl⟩, by omega, ha, Fr.refl _ _⟩
  · by_cases hf : L - U < n
    · refine (take_full 0 n (by simp) ha (by omega) (by simp; omega) (by simpa using hf)).mono ?_
      rintro e w' ⟨rfl, m, rfl⟩
      exact ⟨5, U, P, rfl, .inr ⟨by omega, rfl⟩, by omega, ha.drewN m, (Fr.refl _ _).drewN m⟩
    · refine (take_ok 0 n (by simp) ha (by omega) (by simp; omega) (by simpa using hf)).mono ?_
      rintro e w' ⟨rfl, h1, h2⟩
      refine ⟨0, U + n, max P (U + n), rfl, .inl ⟨rfl, by omega, rfl⟩, by omega, ?_, h2⟩
      simpa using h1
theorem used1 {b g : Nat} {L U P : Int} {w : World} (ha : Acct w b g [⟨L, U, P⟩]) :
    Calls Try.prog 16 #[.pointer (some ⟨b, 0, none⟩), .int .i64 0] w fun e w' => e = .returned (.int .i64 U) ∧ w = w' := used_in 0 (by simp) ha
theorem peak1 {b g : Nat} {L U P : Int} {w : World} (ha : Acct w b g [⟨L, U, P⟩]) :
    Calls Try.prog 17 #[.pointer (some ⟨b, 0, none⟩), .int .i64 0] w fun e w' => e = .returned (.int .i64 P) ∧ w = w' := peak_in 0 (by simp) ha
theorem give1 {b g : Nat} {L U P : Int} {w : World} (n : Int) (ha : Acct w b g [⟨L, U, P⟩]) (hn : 0 ≤ n ∧ n ≤ U) (hu : U ≤ 9223372036854775807) :
    Calls Try.prog 18 #[.pointer (some ⟨b, 0, none⟩), .int .i64 0, .int .i64 n] w fun e w' => e = .returned (.tuple #[]) ∧ Acct w' b g [⟨L, U - n, P⟩] ∧ Fr (· = g) w w' := by
  refine (give_in 0 n (by simp) ha (by simpa using hu)).mono ?_
  rintro e w' ⟨rfl, h1, h2⟩
  refine ⟨rfl, ?_, h2⟩
  have : qsub U n = U - n := by unfold qsub; omega
  simpa [this] using h1

def Nums (ts : List Int) : List Value := ts.map (Value.int .i64)
/-- What holds at the head of the first loop. -/
structure Rel (B : Nat) (w w1 : World) (b g : Nat) (L : Int) (k : Nat) (v : Value) (ts : List Int) (U P : Int) (wr : World) : Prop where
  own : wr.ownsRow w1.heap.size 3 1 v ts.length (Nums ts)
  len : ts.length ≤ k
  pos : ∀ t ∈ ts, 0 ≤ t
  sum : ts.sum = U
  bd : 0 ≤ U ∧ U ≤ P ∧ P ≤ L
  acct : Acct wr b g [⟨L, U, P⟩]
  bel : Below B w wr
  sz : w1.heap.size ≤ wr.heap.size

theorem Fr.cell {S : Nat → Prop} {w w' : World} (h : Fr S w w') {a : Addr} (ha : a.block < w.heap.size) (hS : ¬ S a.block) : w'.cell? a = w.cell? a :=
  World.cell?_of_block (h.block _ ha hS)
theorem Fr.of_grown {w w' : World} {row : Option Nat} (h : w.grownBy w' row) : Fr (fun i => row = some i) w w' :=
  ⟨h.os, h.tape, h.output, h.size, fun k hk hn => h.block k hk fun e => hn e.symm⟩
theorem Rel.push {B : Nat} {w w1 wr w3 w4 : World} {b g : Nat} {L : Int} {k : Nat} {v v' : Value} {ts : List Int} {U P P' x : Int} {o : Obj} (R : Rel B w w1 b g L k v ts U P wr) (hB : B ≤ g) (hBw : B ≤ w1.heap.size) (hb : b < w1.heap.size) (hg : g < w1.heap.size)
    (hf : Fr (· = g) wr w3) (ha : Acct w3 b g [⟨L, U + x, P'⟩]) (hx : 0 ≤ x) (hbd : 0 ≤ U + x ∧ U + x ≤ P' ∧ P' ≤ L) (hw : w1.heap.size ≤ wr.heap.size)
    (hgr : (w3.alloc o).grownBy w4 v.ownBlock) (hown : w4.ownsRow w1.heap.size 3 1 v' (ts.length + 1) (Nums ts ++ [.int .i64 x])) : Rel B w w1 b g L (k + 1) v' (ts ++ [x]) (U + x) P' w4 := by
  have hrow : ∀ i, v.ownBlock = some i → w1.heap.size ≤ i := fun i hi => by
    rcases R.own.2 with ⟨rfl, _⟩ | ⟨g', cap, cur, rfl, hg', _⟩
    · simp [Value.ownBlock] at hi
    · simp [Value.ownBlock] at hi; omega
  have hF : Fr (fun i => v.ownBlock = some i) w3 w4 := ((Fr.refl _ w3).alloc o).trans (Fr.of_grown hgr) (fun _ _ h => h)
  refine ⟨?_, ?_, ?_, ?_, hbd, ?_, ?_, ?_⟩
  · have : Nums (ts ++ [x]) = Nums ts ++ [.int .i64 x] := by simp [Nums]
    rw [this, List.length_append]; exact hown
  · have := R.len; simp; omega
  · intro t ht
    rcases List.mem_append.1 ht with h | h
    · exact R.pos t h
    · simp at h; omega
  · rw [List.sum_append, R.sum]; simp
  · exact ha.fr hF (fun h => by have := hrow _ h; omega) (fun h => by have := hrow _ h; omega)
  · have h1 : Fr (fun i => B ≤ i) wr w4 := (hf.mono fun i _ h => by omega).trans hF fun i _ h => by have := hrow _ h; omega
    exact R.bel.trans (h1.below (by omega) fun _ h => h)
  · exact Nat.le_trans hw (Nat.le_trans hf.size hF.size)
theorem Rel.skip {B : Nat} {w w1 wr w3 : World} {b g : Nat} {L : Int} {k : Nat} {v : Value} {ts : List Int} {U P P' : Int} (R : Rel B w w1 b g L k v ts U P wr) (hB : B ≤ g) (hg : g < w1.heap.size)
    (hf : Fr (· = g) wr w3) (ha : Acct w3 b g [⟨L, U, P'⟩]) (hbd : 0 ≤ U ∧ U ≤ P' ∧ P' ≤ L) (hw : B ≤ wr.heap.size) : Rel B w w1 b g L (k + 1) v ts U P' w3 :=
  ⟨own_fr R.own hf (fun i hi => by omega), by have := R.len; omega, R.pos, R.sum, hbd, ha, R.bel.trans (hf.below hw fun i hi => by omega), Nat.le_trans R.sz hf.size⟩

theorem sum_take_le (ts : List Int) (h : ∀ t ∈ ts, 0 ≤ t) (j : Nat) (hj : j < ts.length) : 0 ≤ ts.getD j 0 ∧ (ts.take (j + 1)).sum = (ts.take j).sum + ts.getD j 0 ∧ (ts.take (j + 1)).sum ≤ ts.sum := by
  have h1 : ts.getD j 0 = ts[j] := by simp [List.getD, hj]
  have h2 : (ts.take (j + 1)).sum = (ts.take j).sum + ts.getD j 0 := by rw [List.take_succ_eq_append_getElem hj, List.sum_append, h1]; simp
  refine ⟨by rw [h1]; exact h _ (List.getElem_mem hj), h2, ?_⟩
  have h3 : ts.sum = (ts.take (j + 1)).sum + (ts.drop (j + 1)).sum := by rw [← List.sum_append, List.take_append_drop]
  have h4 : ∀ l : List Int, (∀ t ∈ l, 0 ≤ t) → 0 ≤ l.sum := by
    intro l
    induction l with
    | nil => intro _; simp
    | cons x l ih => intro hl; have := hl x (by simp); have := ih (fun t ht => hl t (by simp [ht])); simp; omega
  have := h4 (ts.drop (j + 1)) (fun t ht => h t (List.mem_of_mem_drop ht))
  omega

theorem sub_take {ts : List Int} {U : Int} (h : ts.sum = U) : U - (ts.take ts.length).sum = 0 := by rw [List.take_length, h]; omega

theorem Try.info3 : (Try.prog.info? 3).map (fun i => (i.zero, i.size, i.bytes)) = some (some (.int .i64 0), 1, 8) := by kernel_rfl

set_option maxHeartbeats 1600000 in
set_option maxRecDepth 100000 in
theorem bounds_walk (L : Int) (hL : 0 ≤ L ∧ L ≤ 9223372036854775807) (a : Option Addr) (n c : Nat) (zs : List Int) (w : World) (hn : n * 8 ≤ 140737488351232) (hz : n ≤ zs.length)
    (hc : 0 < n → ∃ lb lo : Nat, a = some ⟨lb, lo, none⟩ ∧ lb < w.heap.size ∧ ∀ j, j < n → w.cell? ⟨lb, lo + j, none⟩ = some (.int .i64 (zs.getD j 0))) :
    Calls Try.prog 5 #[.int .i64 L, .slice a n c] w fun e w' => e = .returned (.bool true) ∧ Below w.heap.size w w' := by
  obtain ⟨i0, hi, hz0, hz1, hz2⟩ := info_parts Try.info3
  go_enter Try.func5, Try.ntmps5
  go_wp2_with fail
  refine (new_ok (w := _) w.heap.size 0 1 1 [L] (by omega) (by omega) (by simp) ?_ (by simp) (by simp [Lib.minOf]; omega)).mono ?_
  · intro j hj
    obtain rfl : j = 0 := by simpa using hj
    go_simp
  rintro e w1 ⟨rfl, g, hg, ha, hb⟩
  have hsz : (w.alloc (Obj.cells #[Value.int IntKind.i64 L] 3)).heap.size = w.heap.size + 1 := by simp
  rw [hsz] at hg ha hb ⊢
  have hb1 : Below w.heap.size w w1 := ((Below.refl _ w).alloc (Nat.le_refl _) _).trans (hb.mono (by omega))
  have ha1 : Acct w1 (w.heap.size + 1) g [⟨L, 0, 0⟩] := ha
  have hs1 := hb1.size
  obtain ⟨B, hB⟩ : ∃ B, B = w.heap.size := ⟨_, rfl⟩
  rw [← hB] at hg ha1 hb1 hs1 ⊢
  have HB := Lib.hid hB
  clear hB hsz ha hb
  go_wp2_with (go_at_call 13; refine (alive_any _).mono ?_; rintro e w2 ⟨rfl, hbel⟩)
  have hb2 : Below B w w2 := hb1.trans (hbel.mono hs1)
  have ha2 : Acct w2 (B + 1) g [⟨L, 0, 0⟩] := ha1.fr (Fr.of_below (S := fun _ => False) hbel (Nat.le_refl _)) id id
  have hg1 : g < w1.heap.size := by obtain ⟨_, _, _, _, _, _, _, h⟩ := ha1; exact h.lt
  have hB1 : B + 1 < w1.heap.size := by obtain ⟨_, _, _, _, _, _, h, _⟩ := ha1; exact h.lt
  have hs2 := hbel.size
  clear ha1 hb1 hbel
  go_loopw [7, 8] (fun v i wr => ∃ (k : Nat) (ts : List Int) (U P : Int), k ≤ n ∧ i = .int .i64 k ∧ Rel B w w1 (B + 1) g L k v ts U P wr) (fun _ i _ => n - (intOf i).toNat)
  case atStart => exact ⟨0, [], 0, 0, Nat.zero_le _, rfl, ⟨⟨rfl, .inl ⟨rfl, rfl⟩⟩, by simp, by simp, rfl, by omega, ha2, hb2, hs2⟩⟩
  case round =>
    obtain ⟨k, ts, U, P, hk, rfl, R⟩ := hrel
    by_cases hlt : k < n
    · obtain ⟨lb, lo, rfl, hlb, hcell⟩ := hc (by omega)
      have hcx : wr.cell? ⟨lb, lo + k, none⟩ = some (.int .i64 (zs.getD k 0)) := (R.bel.cell (by show lb < B; have := HB.out; omega)).trans (hcell k hlt)
      clear hcell hc
      have HR := Lib.hid R
      clear R
      go_wp2_with fail
      refine (take1 _ HR.out.acct ⟨HR.out.bd.1, HR.out.bd.2.1, HR.out.bd.2.2, hL.2⟩).mono ?_
      rintro e w3 ⟨r, U', P', rfl, hr, hbd, ha3, hf3⟩
      have hcx3 := (hf3.cell (a := ⟨lb, lo + k, none⟩) (by show lb < _; have := HR.out.bel.size; have := HB.out; omega) (by show ¬ lb = g; have := HB.out; omega)).trans hcx
      clear hcx
      rcases hr with ⟨rfl, hn0, rfl⟩ | ⟨hr, rfl⟩
      · have hown := own_fr HR.out.own hf3 (fun i hi => by omega)
        go_wp2_with (at_builtin; refine wpList_append_own _ rfl _ _ 26 rfl w1.heap.size 3 i0 (.int .i64 0) 1 8 Try.underlying26 hi hz0 hz1 hz2 rfl (by decide) _ _ _ rfl (hown.alloc _) ⟨w3.heap.size, 0, none⟩ 1 1 [.int .i64 (zs.getD k 0)] rfl rfl ?c1 ?c2 ?c3 ?c4 ?c5 ?_)
        case c1 =>
          intro j u hj
          match j, hj with
          | 0, hj => simp at hj; subst hj; simp [Addr.add]
        case c2 => intro u hu; simp at hu; subst hu; rfl
        case c3 => have := HR.out.len; unfold maxLen; omega
        case c4 => have := HR.out.len; omega
        case c5 => have := hf3.size; have := HR.out.bel.size; have := HR.out.sz; simp; omega
        · intro v' w4 hown' hgrow _
          have R4 := HR.out.push (by omega) (by omega) (by omega) hg1 hf3 ha3 hn0 hbd HR.out.sz hgrow hown'
          have ha4 := R4.acct
          have HR4 := Lib.hid R4
          clear R4 hgrow hown' hown hcx3 ha3 hf3 HR
          go_wp2_with (first
            | (go_at_call 16; refine (used1 ha4).mono ?_; rintro e w' ⟨rfl, rfl⟩)
            | (go_at_call 17; refine (peak1 ha4).mono ?_; rintro e w' ⟨rfl, rfl⟩))
          go_roundw
          case rel => exact ⟨k + 1, _, _, _, by omega, by go_num, HR4.out⟩
          case measure => simp [intOf]; omega
      · have hr0 : (r == 0) = false := by rw [beq_eq_false_iff_ne]; omega
        have R4 := HR.out.skip (by omega) hg1 hf3 ha3 hbd (by have := HR.out.bel.size; have := HB.out; omega)
        have HR4 := Lib.hid R4
        clear R4 hcx3 hf3 HR hr
        go_wp2_with (first
          | (go_at_call 16; refine (used1 ha3).mono ?_; rintro e w' ⟨rfl, rfl⟩)
          | (go_at_call 17; refine (peak1 ha3).mono ?_; rintro e w' ⟨rfl, rfl⟩))
        go_roundw
        case rel => exact ⟨k + 1, _, _, _, by omega, by go_num, HR4.out⟩
        case measure => simp [intOf]; omega
    · have HR := Lib.hid R
      have hown := R.own
      clear R hc
      rcases hown.2 with ⟨rfl, h0⟩ | ⟨g', cap, cur, rfl, hg', hh, h2, h3, h4, h5⟩
      · have hU : U = 0 := by
          have := HR.out.sum; rw [List.length_eq_zero_iff.1 h0] at this; simpa using this.symm
        have HU := Lib.hid hU
        have ha3 := HR.out.acct
        have hb3 := HR.out.bel
        rw [hU] at ha3
        clear hU hown h0
        go_wp2_with fail
        go_loop [9] (fun i => i = .int .i64 0) (fun _ => 0)
        case atStart => rfl
        case round =>
          obtain rfl := hrel
          go_wp2_with (go_at_call 16; refine (used1 ha3).mono ?_; rintro e w' ⟨rfl, rfl⟩)
          go_ret
          exact ⟨rfl, by rw [← HB.out]; exact hb3⟩
      · obtain ⟨wo, hwo⟩ : ∃ wo : World, wo = wr := ⟨_, rfl⟩
        subst hwo
        have hrow : Blk wo g' 3 cur.toList := by unfold Blk; simpa using hh
        have hpos := HR.out.pos
        have hcells : ∀ j, j < ts.length → cur.toList[j]? = some (.int .i64 (ts.getD j 0)) := fun j hj => by
          have h6 : (cur.toList.take (ts.length * 1))[j]? = (Nums ts)[j]? := by rw [h5]
          rw [List.getElem?_take, if_pos (by omega)] at h6
          rw [h6]; simp [Nums, hj]
        have hts := HR.out.len
        have hlen3 : ts.length ≤ 17592186044416 := by omega
        have HC := Lib.hid hcells
        have HP := Lib.hid hpos
        clear hcells hpos h5 h4 hh hown
        go_wp2_with fail
        go_loopw [9] (fun i wl => ∃ j : Nat, j ≤ ts.length ∧ i = .int .i64 j ∧ Acct wl (B + 1) g [⟨L, U - (ts.take j).sum, P⟩] ∧ Fr (· = g) wo wl) (fun i _ => ts.length - (intOf i).toNat)
        case atStart => exact ⟨0, Nat.zero_le _, rfl, by simpa using HR.out.acct, Fr.refl _ _⟩
        case round =>
          obtain ⟨j, hj, rfl, ha3, hf3⟩ := hrel
          by_cases hjl : j < ts.length
          · have hcj : wo.cell? ⟨g', j, none⟩ = some (.int .i64 (ts.getD j 0)) := (hrow.cell j).trans (HC.out j hjl)
            have hcj2 := (hf3.cell (a := ⟨g', j, none⟩) hrow.lt (by show ¬ g' = g; omega)).trans hcj
            obtain ⟨p1, p2, p3⟩ := sum_take_le ts HP.out j hjl
            have p4 := HR.out.bd
            have p5 : (ts.take (j + 1)).sum ≤ U := by rw [← HR.out.sum]; exact p3
            have HP2 := Lib.hid p2
            have p6 : 0 ≤ ts.getD j 0 ∧ ts.getD j 0 ≤ U - (ts.take j).sum := by omega
            have p7 : U - (ts.take j).sum ≤ 9223372036854775807 := by
              have := (sum_take_le ts HP.out j hjl).1
              have h8 : ∀ l : List Int, (∀ t ∈ l, 0 ≤ t) → 0 ≤ l.sum := by
                intro l
                induction l with
                | nil => intro _; simp
                | cons x l ih => intro hl; have := hl x (by simp); have := ih (fun t ht => hl t (by simp [ht])); simp; omega
              have := h8 (ts.take j) (fun t ht => HP.out t (List.mem_of_mem_take ht))
              omega
            clear p2 hcj p1 p3 p4 p5
            generalize ts.getD j 0 = x at *
            go_wp2_with (go_at_call 18; refine (give1 _ ha3 p6 p7).mono ?_; rintro e w' ⟨rfl, ha4, hf4⟩)
            go_roundw
            case rel => exact ⟨j + 1, by omega, by go_num, by rw [HP2.out, show U - ((ts.take j).sum + x) = U - (ts.take j).sum - x by omega]; exact ha4, hf3.trans hf4 fun _ _ h => h⟩
            case measure => simp [intOf]; omega
          · obtain rfl : j = ts.length := by omega
            have hU : U - (ts.take ts.length).sum = 0 := sub_take HR.out.sum
            rw [hU] at ha3
            clear hU
            have hb3 := HR.out.bel.trans (hf3.below (B := B) (by have := HR.out.bel.size; have := HB.out; omega) fun i hi => by omega)
            go_wp2_with (go_at_call 16; refine (used1 ha3).mono ?_; rintro e w' ⟨rfl, rfl⟩)
            go_ret
            exact ⟨rfl, by rw [← HB.out]; exact hb3⟩

theorem bounds_neg (L : Int) (hL : L < 0) (a : Option Addr) (n c : Nat) (w : World) :
    Calls Try.prog 5 #[.int .i64 L, .slice a n c] w fun e w' => e = .returned (.bool true) ∧ Below w.heap.size w w' := by
  go_enter Try.func5, Try.ntmps5
  go_wp2_with fail
  refine (new_neg (w := _) w.heap.size 0 1 1 [L] (by omega) (by omega) (by simp) ?_ (by simp [Lib.minOf]; omega)).mono ?_
  · intro j hj
    obtain rfl : j = 0 := by simpa using hj
    go_simp
  rintro e w1 ⟨rfl, rfl⟩
  go_wp2_with (go_at_call 13; refine (alive_any _).mono ?_; rintro e w2 ⟨rfl, hbel⟩)
  go_ret
  exact ⟨rfl, ((Below.refl _ w).alloc (Nat.le_refl _) _).trans (hbel.mono (by simp))⟩

end Go.Proofs.Ythmllfejnmbfgaa
