/- How great and deep terms and formulas are: contracts of Size and Depth, of the package's and of the reference's. -/
import Derived.Test.YtndjjnnljihmnaaGreatFmA
import Derived.Test.YtndjjnnljihmnaaGreatProg
import Derived.WalkKit
import Derived.WalkSpells
import Derived.WalkLawsBesides
import Derived.RegionTactic
import Derived.LoopTactic
import Derived.Outline
import Derived.Deep.QuietTactic
import Derived.BigQuiet
import Derived.Deep.RegionHeld3
import Derived.Lib.Hide
import Derived.IntWalk
namespace Go.Proofs.YtndjjnnljihmnaaGreat
open Go.RowKit
set_option linter.unusedVariables false
set_option linter.unusedSimpArgs false
mutual
def Tm.size : Tm → Nat
  | .mk _ _ ts => 1 + Tm.sizes ts
def Tm.sizes : List Tm → Nat
  | [] => 0
  | t :: r => Tm.size t + Tm.sizes r
end
mutual
def Tm.depth : Tm → Nat
  | .mk _ _ ts => Tm.depths ts + 1
def Tm.depths : List Tm → Nat
  | [] => 0
  | t :: r => max (Tm.depth t) (Tm.depths r)
end
mutual
def Fm.size : Fm → Nat
  | .mk k _ l r ks => (if k = 1 then 1 + (l.size + r.size) else 1) + Fm.sizes ks
def Fm.sizes : List Fm → Nat
  | [] => 0
  | t :: r => Fm.size t + Fm.sizes r
end
mutual
def Fm.depth : Fm → Nat
  | .mk k _ l r ks => max (if k = 1 then max l.depth r.depth else 0) (Fm.depths ks) + 1
def Fm.depths : List Fm → Nat
  | [] => 0
  | t :: r => max (Fm.depth t) (Fm.depths r)
end
mutual
theorem Tm.depth_le : ∀ t : Tm, t.depth ≤ t.size
  | .mk v f ts => by
    have := Tm.depths_le ts
    rw [Tm.depth, Tm.size]; omega
theorem Tm.depths_le : ∀ ts : List Tm, Tm.depths ts ≤ Tm.sizes ts
  | [] => by simp [Tm.depths]
  | t :: r => by
    have h1 := Tm.depth_le t
    have h2 := Tm.depths_le r
    rw [Tm.depths, Tm.sizes]; omega
end
mutual
theorem Fm.depth_le : ∀ t : Fm, t.depth ≤ t.size
  | .mk k n l r ts => by
    have := Fm.depths_le ts
    have h1 := Tm.depth_le l
    have h2 := Tm.depth_le r
    rw [Fm.depth, Fm.size]
    by_cases h : k = 1
    · rw [if_pos h, if_pos h]; omega
    · rw [if_neg h, if_neg h]; omega
theorem Fm.depths_le : ∀ ts : List Fm, Fm.depths ts ≤ Fm.sizes ts
  | [] => by simp [Fm.depths]
  | t :: r => by
    have h1 := Fm.depth_le t
    have h2 := Fm.depths_le r
    rw [Fm.depths, Fm.sizes]; omega
end
theorem Tm.sizes_drop (ts : List Tm) (i : Nat) (h : i < ts.length) : Tm.sizes (ts.drop i) = Tm.size ts[i] + Tm.sizes (ts.drop (i + 1)) := by
  rw [List.drop_eq_getElem_cons h, Tm.sizes]
theorem Tm.depths_drop (ts : List Tm) (i : Nat) (h : i < ts.length) : Tm.depths (ts.drop i) = max (Tm.depth ts[i]) (Tm.depths (ts.drop (i + 1))) := by
  rw [List.drop_eq_getElem_cons h, Tm.depths]
theorem Tm.sizes_le : ∀ (ts : List Tm) (i : Nat) (h : i < ts.length), Tm.size ts[i] ≤ Tm.sizes ts
  | t :: r, 0, _ => by simp [Tm.sizes]
  | t :: r, i + 1, h => by
    have := Tm.sizes_le r i (by simpa using h)
    simp only [Tm.sizes, List.getElem_cons_succ]; omega
theorem Tm.sizes_len : ∀ ts : List Tm, ts.length ≤ Tm.sizes ts
  | [] => by simp
  | .mk v f bs :: r => by
    have := Tm.sizes_len r
    simp only [Tm.sizes, Tm.size, List.length_cons]; omega
theorem Tm.size_pos : ∀ t : Tm, 1 ≤ t.size
  | .mk v f bs => by rw [Tm.size]; omega
theorem Fm.sizes_drop (ts : List Fm) (i : Nat) (h : i < ts.length) : Fm.sizes (ts.drop i) = Fm.size ts[i] + Fm.sizes (ts.drop (i + 1)) := by
  rw [List.drop_eq_getElem_cons h, Fm.sizes]
theorem Fm.depths_drop (ts : List Fm) (i : Nat) (h : i < ts.length) : Fm.depths (ts.drop i) = max (Fm.depth ts[i]) (Fm.depths (ts.drop (i + 1))) := by
  rw [List.drop_eq_getElem_cons h, Fm.depths]
theorem Fm.sizes_le : ∀ (ts : List Fm) (i : Nat) (h : i < ts.length), Fm.size ts[i] ≤ Fm.sizes ts
  | t :: r, 0, _ => by simp [Fm.sizes]
  | t :: r, i + 1, h => by
    have := Fm.sizes_le r i (by simpa using h)
    simp only [Fm.sizes, List.getElem_cons_succ]; omega
theorem Fm.sizes_len : ∀ ts : List Fm, ts.length ≤ Fm.sizes ts
  | [] => by simp
  | .mk k n l r' bs :: r => by
    have := Fm.sizes_len r
    simp only [Fm.sizes, Fm.size, List.length_cons]; split <;> omega
theorem Fm.size_pos : ∀ t : Fm, 1 ≤ t.size
  | .mk k n l r' bs => by rw [Fm.size]; split <;> omega
set_option maxHeartbeats 1600000 in
theorem tsize0 : ∀ (N : Nat) (v : Int) (f : ByteArray) (ts : List Tm) (S : Nat → Prop) (w : World) (A : Option Addr) (c : Nat), (Tm.mk v f ts).size ≤ N → N ≤ 1152921504606846976 → ST S w A ts.length c ts →
    Calls Tryz.prog 63 #[.agg #[.int .i64 v, .string f, .slice A ts.length c]] w fun e w' => e = .returned (.int .i64 ((Tm.mk v f ts).size : Nat)) ∧ Below w.heap.size w w' := by
  intro N
  induction N with
  | zero => intro v f ts S w A c h; have := Tm.size_pos (Tm.mk v f ts); omega
  | succ N ih =>
    intro v f ts S w A c h hN hst
    have hsz : (Tm.mk v f ts).size = 1 + Tm.sizes ts := by rw [Tm.size]
    have hres : (Tm.mk v f ts).size = 1 + Tm.sizes ts := by rw [Tm.size]
    have hl' := Tm.sizes_len ts
    have HST := Lib.hid hst
    have hlen : ts.length ≤ 1152921504606846976 := by have : N + 1 ≤ 1152921504606846976 := hN; omega
    rw [hres]
    rw [hsz] at h
    have HH := Lib.hid h
    have HNB : Hid (N + 1 ≤ 1152921504606846976) := Lib.hid hN
    clear hst hsz hres h hN hl'
    go_enter Tryz.func63, Tryz.ntmps63
    go_wp2_with fail
    go_loopw [3, 9] (fun va vi wl => ∃ i kk : Nat, i ≤ ts.length ∧ vi = .int .i64 i ∧ va = .int .i64 kk ∧ 1 + Tm.sizes ts = kk + Tm.sizes (ts.drop i) ∧ Below (w.heap.size + 1) (w.alloc (.cells #[.int .i64 v, .string f, .slice A ts.length c] 24)) wl) (fun _ vi _ => ts.length - (intOf vi).toNat)
    case atStart => exact ⟨0, 1, by omega, rfl, by first | rfl | go_num, by rw [List.drop_zero], Below.refl _ _⟩
    case round =>
      obtain ⟨i, kk, hi, rfl, rfl, hk, hb1⟩ := hrel
      have HK := Lib.hid hk
      have HB1 := Lib.hid hb1
      have HB : Hid (Below w.heap.size w wr) := Lib.hid (bel_box hb1)
      have hbs : w.heap.size + 1 ≤ wr.heap.size := bel_size hb1
      clear hk hb1
      by_cases hlt : i < ts.length
      · obtain ⟨b, o, hA, v', f', us, Ai, ci, hm, hsti, k0, k1, k2⟩ := HST.out.at i hlt
        subst hA
        have hbw := World.block_lt_of_cell? w _ k0
        have c0 := (HB.out.cell (p := ⟨b, o + i * 3, none⟩) hbw).trans k0
        have c1 := (HB.out.cell (p := ⟨b, o + i * 3 + 1, none⟩) hbw).trans k1
        have c2 := (HB.out.cell (p := ⟨b, o + i * 3 + 2, none⟩) hbw).trans k2
        have HSTI := Lib.hid hsti
        clear k0 k1 k2 hsti
        have hd := Tm.sizes_drop ts i hlt
        rw [hm] at hd
        have hIN : (Tm.mk v' f' us).size ≤ N := by
          have h1 := Tm.sizes_le ts i hlt
          rw [hm] at h1
          have := HH.out
          omega
        have hle := HK.out
        have hnb := HNB.out
        have hh := HH.out
        have hkb : (kk : Int) ≤ 1152921504606846976 := by have h2 : 0 ≤ Tm.sizes (ts.drop i) := Nat.zero_le _; omega
        have hmb : ((Tm.mk v' f' us).size : Int) ≤ 1152921504606846976 := by omega
        have HD := Lib.hid hd
        have HI := Lib.hid (And.intro hIN hlt)
        clear hd hm hle hnb hh hIN
        go_wp2_with fail
        refine (ih v' f' us S _ Ai ci HI.out.1 (by have := HNB.out; omega) (HSTI.out.stay (Stay.below (by exact HB.out.alloc (by omega) _)))).mono ?_
        rintro e w2 ⟨rfl, hb2⟩
        have HB2 := Lib.hid ((HB1.out.alloc (by omega) _).trans (hb2.mono (by first | omega | (simp; omega))))
        clear hb2
        generalize (Tm.mk v' f' us).size = q at *
        go_wp2_with fail
        go_roundw
        case rel => exact ⟨i + 1, kk + q, HI.out.2, by go_num, by go_num, by have := HK.out; rw [HD.out] at this; omega, HB2.out⟩
        case measure => have := HI.out.2; simp [intOf]; omega
      · obtain rfl : i = ts.length := by omega
        have hk' := HK.out
        rw [List.drop_length, Tm.sizes] at hk'
        rw [Nat.add_zero] at hk'
        have HK' := Lib.hid hk'
        have d1 : decide (ts.length < ts.length) = false := by simp
        clear hk'
        go_wp2_with fail
        go_ret
        exact ⟨by rw [HK'.out]; rfl, HB.out⟩
set_option maxHeartbeats 1600000 in
theorem rtsize0 : ∀ (N : Nat) (v : Int) (f : ByteArray) (ts : List Tm) (S : Nat → Prop) (w : World) (A : Option Addr) (c : Nat), (Tm.mk v f ts).size ≤ N → N ≤ 1152921504606846976 → ST S w A ts.length c ts →
    Calls Tryz.prog 32 #[.agg #[.int .i64 v, .string f, .slice A ts.length c]] w fun e w' => e = .returned (.int .i64 ((Tm.mk v f ts).size : Nat)) ∧ Below w.heap.size w w' := by
  intro N
  induction N with
  | zero => intro v f ts S w A c h; have := Tm.size_pos (Tm.mk v f ts); omega
  | succ N ih =>
    intro v f ts S w A c h hN hst
    have hsz : (Tm.mk v f ts).size = 1 + Tm.sizes ts := by rw [Tm.size]
    have hres : (Tm.mk v f ts).size = 1 + Tm.sizes ts := by rw [Tm.size]
    have hl' := Tm.sizes_len ts
    have HST := Lib.hid hst
    have hlen : ts.length ≤ 1152921504606846976 := by have : N + 1 ≤ 1152921504606846976 := hN; omega
    rw [hres]
    rw [hsz] at h
    have HH := Lib.hid h
    have HNB : Hid (N + 1 ≤ 1152921504606846976) := Lib.hid hN
    clear hst hsz hres h hN hl'
    go_enter Tryz.func32, Tryz.ntmps32
    go_wp2_with fail
    go_loopw [3, 4] (fun va vi wl => ∃ i kk : Nat, i ≤ ts.length ∧ vi = .int .i64 i ∧ va = .int .i64 kk ∧ 1 + Tm.sizes ts = kk + Tm.sizes (ts.drop i) ∧ Below (w.heap.size + 1) (w.alloc (.cells #[.int .i64 v, .string f, .slice A ts.length c] 24)) wl) (fun _ vi _ => ts.length - (intOf vi).toNat)
    case atStart => exact ⟨0, 1, by omega, rfl, by first | rfl | go_num, by rw [List.drop_zero], Below.refl _ _⟩
    case round =>
      obtain ⟨i, kk, hi, rfl, rfl, hk, hb1⟩ := hrel
      have HK := Lib.hid hk
      have HB1 := Lib.hid hb1
      have HB : Hid (Below w.heap.size w wr) := Lib.hid (bel_box hb1)
      have hbs : w.heap.size + 1 ≤ wr.heap.size := bel_size hb1
      have r0 := box_cell hb1 2 _ rfl
      clear hk hb1
      by_cases hlt : i < ts.length
      · obtain ⟨b, o, hA, v', f', us, Ai, ci, hm, hsti, k0, k1, k2⟩ := HST.out.at i hlt
        subst hA
        have hbw := World.block_lt_of_cell? w _ k0
        have c0 := (HB.out.cell (p := ⟨b, o + i * 3, none⟩) hbw).trans k0
        have c1 := (HB.out.cell (p := ⟨b, o + i * 3 + 1, none⟩) hbw).trans k1
        have c2 := (HB.out.cell (p := ⟨b, o + i * 3 + 2, none⟩) hbw).trans k2
        have HSTI := Lib.hid hsti
        clear k0 k1 k2 hsti
        have hd := Tm.sizes_drop ts i hlt
        rw [hm] at hd
        have hIN : (Tm.mk v' f' us).size ≤ N := by
          have h1 := Tm.sizes_le ts i hlt
          rw [hm] at h1
          have := HH.out
          omega
        have hle := HK.out
        have hnb := HNB.out
        have hh := HH.out
        have hkb : (kk : Int) ≤ 1152921504606846976 := by have h2 : 0 ≤ Tm.sizes (ts.drop i) := Nat.zero_le _; omega
        have hmb : ((Tm.mk v' f' us).size : Int) ≤ 1152921504606846976 := by omega
        have HD := Lib.hid hd
        have HI := Lib.hid (And.intro hIN hlt)
        clear hd hm hle hnb hh hIN
        go_wp2_with fail
        refine (ih v' f' us S _ Ai ci HI.out.1 (by have := HNB.out; omega) (HSTI.out.stay (Stay.below (by exact HB.out)))).mono ?_
        rintro e w2 ⟨rfl, hb2⟩
        have HB2 := Lib.hid ((HB1.out).trans (hb2.mono (by first | omega | (simp; omega))))
        clear hb2
        generalize (Tm.mk v' f' us).size = q at *
        go_wp2_with fail
        go_roundw
        case rel => exact ⟨i + 1, kk + q, HI.out.2, by go_num, by go_num, by have := HK.out; rw [HD.out] at this; omega, HB2.out⟩
        case measure => have := HI.out.2; simp [intOf]; omega
      · obtain rfl : i = ts.length := by omega
        have hk' := HK.out
        rw [List.drop_length, Tm.sizes] at hk'
        rw [Nat.add_zero] at hk'
        have HK' := Lib.hid hk'
        have d1 : decide (ts.length < ts.length) = false := by simp
        clear hk'
        go_wp2_with fail
        go_ret
        exact ⟨by rw [HK'.out]; rfl, HB.out⟩
set_option maxHeartbeats 1600000 in
theorem tdepth0 : ∀ (N : Nat) (v : Int) (f : ByteArray) (ts : List Tm) (S : Nat → Prop) (w : World) (A : Option Addr) (c : Nat), (Tm.mk v f ts).size ≤ N → N ≤ 1152921504606846976 → ST S w A ts.length c ts →
    Calls Tryz.prog 64 #[.agg #[.int .i64 v, .string f, .slice A ts.length c]] w fun e w' => e = .returned (.int .i64 ((Tm.mk v f ts).depth : Nat)) ∧ Below w.heap.size w w' := by
  intro N
  induction N with
  | zero => intro v f ts S w A c h; have := Tm.size_pos (Tm.mk v f ts); omega
  | succ N ih =>
    intro v f ts S w A c h hN hst
    have hsz : (Tm.mk v f ts).size = 1 + Tm.sizes ts := by rw [Tm.size]
    have hres : (Tm.mk v f ts).depth = max 0 (Tm.depths ts) + 1 := by rw [Tm.depth, Nat.zero_max]
    have hdl := Tm.depths_le ts
    have hl' := Tm.sizes_len ts
    have HST := Lib.hid hst
    have hlen : ts.length ≤ 1152921504606846976 := by have : N + 1 ≤ 1152921504606846976 := hN; omega
    rw [hres]
    rw [hsz] at h
    have HH := Lib.hid h
    have HNB : Hid (N + 1 ≤ 1152921504606846976) := Lib.hid hN
    clear hst hsz hres h hN hl' hdl
    go_enter Tryz.func64, Tryz.ntmps64
    go_wp2_with fail
    go_loopw [3, 9] (fun va vi wl => ∃ i kk : Nat, i ≤ ts.length ∧ vi = .int .i64 i ∧ va = .int .i64 kk ∧ max 0 (Tm.depths ts) = max kk (Tm.depths (ts.drop i)) ∧ Below (w.heap.size + 1) (w.alloc (.cells #[.int .i64 v, .string f, .slice A ts.length c] 24)) wl) (fun _ vi _ => ts.length - (intOf vi).toNat)
    case atStart => exact ⟨0, 0, by omega, rfl, by first | rfl | go_num, by rw [List.drop_zero], Below.refl _ _⟩
    case round =>
      obtain ⟨i, kk, hi, rfl, rfl, hk, hb1⟩ := hrel
      have HK := Lib.hid hk
      have HB1 := Lib.hid hb1
      have HB : Hid (Below w.heap.size w wr) := Lib.hid (bel_box hb1)
      have hbs : w.heap.size + 1 ≤ wr.heap.size := bel_size hb1
      clear hk hb1
      by_cases hlt : i < ts.length
      · obtain ⟨b, o, hA, v', f', us, Ai, ci, hm, hsti, k0, k1, k2⟩ := HST.out.at i hlt
        subst hA
        have hbw := World.block_lt_of_cell? w _ k0
        have c0 := (HB.out.cell (p := ⟨b, o + i * 3, none⟩) hbw).trans k0
        have c1 := (HB.out.cell (p := ⟨b, o + i * 3 + 1, none⟩) hbw).trans k1
        have c2 := (HB.out.cell (p := ⟨b, o + i * 3 + 2, none⟩) hbw).trans k2
        have HSTI := Lib.hid hsti
        clear k0 k1 k2 hsti
        have hd := Tm.depths_drop ts i hlt
        rw [hm] at hd
        have hd' := Tm.depth_le (Tm.mk v' f' us)
        have hIN : (Tm.mk v' f' us).size ≤ N := by
          have h1 := Tm.sizes_le ts i hlt
          rw [hm] at h1
          have := HH.out
          omega
        have hle := HK.out
        have hnb := HNB.out
        have hh := HH.out
        have hkb : (kk : Int) ≤ 1152921504606846976 := by have hdl := Tm.depths_le ts; omega
        have hmb : ((Tm.mk v' f' us).depth : Int) ≤ 1152921504606846976 := by omega
        have HD := Lib.hid hd
        have HI := Lib.hid (And.intro hIN hlt)
        clear hd hm hle hnb hh hIN hd'
        go_wp2_with fail
        refine (ih v' f' us S _ Ai ci HI.out.1 (by have := HNB.out; omega) (HSTI.out.stay (Stay.below (by exact HB.out.alloc (by omega) _)))).mono ?_
        rintro e w2 ⟨rfl, hb2⟩
        have HB2 := Lib.hid ((HB1.out.alloc (by omega) _).trans (hb2.mono (by first | omega | (simp; omega))))
        clear hb2
        generalize (Tm.mk v' f' us).depth = q at *
        by_cases hmx : kk < q
        · have hmx1 : (max kk q : Nat) = q := by omega
          have HMX := Lib.hid hmx1
          clear hmx1
          go_wp2_with fail
          go_roundw
          case rel => exact ⟨i + 1, q, HI.out.2, by go_num, by go_num, by have := HK.out; rw [HD.out] at this; have := HMX.out; omega, HB2.out⟩
          case measure => have := HI.out.2; simp [intOf]; omega
        · have hmx1 : (max kk q : Nat) = kk := by omega
          have HMX := Lib.hid hmx1
          clear hmx1
          go_wp2_with fail
          go_roundw
          case rel => exact ⟨i + 1, kk, HI.out.2, by go_num, by go_num, by have := HK.out; rw [HD.out] at this; have := HMX.out; omega, HB2.out⟩
          case measure => have := HI.out.2; simp [intOf]; omega
      · obtain rfl : i = ts.length := by omega
        have hk' := HK.out
        rw [List.drop_length, Tm.depths] at hk'
        rw [Nat.max_zero] at hk'
        have hdl := Tm.depths_le ts
        have hh := HH.out
        have hnb := HNB.out
        have hkb : (kk : Int) ≤ 1152921504606846976 := by omega
        have HK' := Lib.hid hk'
        have d1 : decide (ts.length < ts.length) = false := by simp
        clear hk' hdl hh hnb
        go_wp2_with fail
        go_ret
        exact ⟨by rw [HK'.out]; show Ending.returned _ = _; congr 1, HB.out⟩
set_option maxHeartbeats 1600000 in
theorem rtdepth0 : ∀ (N : Nat) (v : Int) (f : ByteArray) (ts : List Tm) (S : Nat → Prop) (w : World) (A : Option Addr) (c : Nat), (Tm.mk v f ts).size ≤ N → N ≤ 1152921504606846976 → ST S w A ts.length c ts →
    Calls Tryz.prog 56 #[.agg #[.int .i64 v, .string f, .slice A ts.length c]] w fun e w' => e = .returned (.int .i64 ((Tm.mk v f ts).depth : Nat)) ∧ Below w.heap.size w w' := by
  intro N
  induction N with
  | zero => intro v f ts S w A c h; have := Tm.size_pos (Tm.mk v f ts); omega
  | succ N ih =>
    intro v f ts S w A c h hN hst
    have hsz : (Tm.mk v f ts).size = 1 + Tm.sizes ts := by rw [Tm.size]
    have hres : (Tm.mk v f ts).depth = max 0 (Tm.depths ts) + 1 := by rw [Tm.depth, Nat.zero_max]
    have hdl := Tm.depths_le ts
    have hl' := Tm.sizes_len ts
    have HST := Lib.hid hst
    have hlen : ts.length ≤ 1152921504606846976 := by have : N + 1 ≤ 1152921504606846976 := hN; omega
    rw [hres]
    rw [hsz] at h
    have HH := Lib.hid h
    have HNB : Hid (N + 1 ≤ 1152921504606846976) := Lib.hid hN
    clear hst hsz hres h hN hl' hdl
    go_enter Tryz.func56, Tryz.ntmps56
    go_wp2_with fail
    go_loopw [3, 4] (fun va vi wl => ∃ i kk : Nat, i ≤ ts.length ∧ vi = .int .i64 i ∧ va = .int .i64 kk ∧ max 0 (Tm.depths ts) = max kk (Tm.depths (ts.drop i)) ∧ Below (w.heap.size + 1) (w.alloc (.cells #[.int .i64 v, .string f, .slice A ts.length c] 24)) wl) (fun _ vi _ => ts.length - (intOf vi).toNat)
    case atStart => exact ⟨0, 0, by omega, rfl, by first | rfl | go_num, by rw [List.drop_zero], Below.refl _ _⟩
    case round =>
      obtain ⟨i, kk, hi, rfl, rfl, hk, hb1⟩ := hrel
      have HK := Lib.hid hk
      have HB1 := Lib.hid hb1
      have HB : Hid (Below w.heap.size w wr) := Lib.hid (bel_box hb1)
      have hbs : w.heap.size + 1 ≤ wr.heap.size := bel_size hb1
      have r0 := box_cell hb1 2 _ rfl
      clear hk hb1
      by_cases hlt : i < ts.length
      · obtain ⟨b, o, hA, v', f', us, Ai, ci, hm, hsti, k0, k1, k2⟩ := HST.out.at i hlt
        subst hA
        have hbw := World.block_lt_of_cell? w _ k0
        have c0 := (HB.out.cell (p := ⟨b, o + i * 3, none⟩) hbw).trans k0
        have c1 := (HB.out.cell (p := ⟨b, o + i * 3 + 1, none⟩) hbw).trans k1
        have c2 := (HB.out.cell (p := ⟨b, o + i * 3 + 2, none⟩) hbw).trans k2
        have HSTI := Lib.hid hsti
        clear k0 k1 k2 hsti
        have hd := Tm.depths_drop ts i hlt
        rw [hm] at hd
        have hd' := Tm.depth_le (Tm.mk v' f' us)
        have hIN : (Tm.mk v' f' us).size ≤ N := by
          have h1 := Tm.sizes_le ts i hlt
          rw [hm] at h1
          have := HH.out
          omega
        have hle := HK.out
        have hnb := HNB.out
        have hh := HH.out
        have hkb : (kk : Int) ≤ 1152921504606846976 := by have hdl := Tm.depths_le ts; omega
        have hmb : ((Tm.mk v' f' us).depth : Int) ≤ 1152921504606846976 := by omega
        have HD := Lib.hid hd
        have HI := Lib.hid (And.intro hIN hlt)
        clear hd hm hle hnb hh hIN hd'
        go_wp2_with fail
        refine (ih v' f' us S _ Ai ci HI.out.1 (by have := HNB.out; omega) (HSTI.out.stay (Stay.below (by exact HB.out)))).mono ?_
        rintro e w2 ⟨rfl, hb2⟩
        have HB2 := Lib.hid ((HB1.out).trans (hb2.mono (by first | omega | (simp; omega))))
        clear hb2
        generalize (Tm.mk v' f' us).depth = q at *
        by_cases hmx : kk < q
        · have hmx1 : (max kk q : Nat) = q := by omega
          have HMX := Lib.hid hmx1
          clear hmx1
          go_wp2_with fail
          go_roundw
          case rel => exact ⟨i + 1, q, HI.out.2, by go_num, by go_num, by have := HK.out; rw [HD.out] at this; have := HMX.out; omega, HB2.out⟩
          case measure => have := HI.out.2; simp [intOf]; omega
        · have hmx1 : (max kk q : Nat) = kk := by omega
          have HMX := Lib.hid hmx1
          clear hmx1
          go_wp2_with fail
          go_roundw
          case rel => exact ⟨i + 1, kk, HI.out.2, by go_num, by go_num, by have := HK.out; rw [HD.out] at this; have := HMX.out; omega, HB2.out⟩
          case measure => have := HI.out.2; simp [intOf]; omega
      · obtain rfl : i = ts.length := by omega
        have hk' := HK.out
        rw [List.drop_length, Tm.depths] at hk'
        rw [Nat.max_zero] at hk'
        have hdl := Tm.depths_le ts
        have hh := HH.out
        have hnb := HNB.out
        have hkb : (kk : Int) ≤ 1152921504606846976 := by omega
        have HK' := Lib.hid hk'
        have d1 : decide (ts.length < ts.length) = false := by simp
        clear hk' hdl hh hnb
        go_wp2_with fail
        go_ret
        exact ⟨by rw [HK'.out]; show Ending.returned _ = _; congr 1, HB.out⟩
set_option maxHeartbeats 1600000 in
theorem fsize0 : ∀ (N : Nat) (k : Int) (n : ByteArray) (vl : Int) (fl : ByteArray) (al : List Tm) (vr : Int) (fr : ByteArray) (ar : List Tm) (ts : List Fm) (S : Nat → Prop) (w : World) (Al : Option Addr) (cl : Nat) (Ar : Option Addr) (cr : Nat) (A : Option Addr) (c : Nat), (Fm.mk k n (.mk vl fl al) (.mk vr fr ar) ts).size ≤ N → N ≤ 1152921504606846976 → ST S w Al al.length cl al → ST S w Ar ar.length cr ar → SF S w A ts.length c ts →
    Calls Tryz.prog 36 #[.agg #[.int .i64 k, .string n, .int .i64 vl, .string fl, .slice Al al.length cl, .int .i64 vr, .string fr, .slice Ar ar.length cr, .slice A ts.length c]] w fun e w' => e = .returned (.int .i64 ((Fm.mk k n (.mk vl fl al) (.mk vr fr ar) ts).size : Nat)) ∧ Below w.heap.size w w' := by
  intro N
  induction N with
  | zero => intro k n vl fl al vr fr ar ts S w Al cl Ar cr A c h; have := Fm.size_pos (Fm.mk k n (.mk vl fl al) (.mk vr fr ar) ts); omega
  | succ N ih =>
    intro k n vl fl al vr fr ar ts S w Al cl Ar cr A c h hN hl hr hst
    have hl' := Fm.sizes_len ts
    have HST := Lib.hid hst
    have HL := Lib.hid hl
    have HR := Lib.hid hr
    have hlim : N + 1 ≤ 1152921504606846976 := hN
    have HNB : Hid (N + 1 ≤ 1152921504606846976) := Lib.hid hN
    by_cases hk1 : k = 1
    · have hsz : (Fm.mk k n (.mk vl fl al) (.mk vr fr ar) ts).size = 1 + ((Tm.mk vl fl al).size + (Tm.mk vr fr ar).size) + Fm.sizes ts := by rw [Fm.size, if_pos hk1]
      have hres := hsz
      have d0 : (k == 1) = true := by simpa using hk1
      have hlen : ts.length ≤ 1152921504606846976 := by omega
      rw [hres]
      rw [hsz] at h
      have HH := Lib.hid h
      have hbL : ((Tm.mk vl fl al).size : Int) ≤ 1152921504606846976 := by omega
      have HTL := Lib.hid (fun w' h => tsize0 1152921504606846976 vl fl al S w' Al cl (by omega) (Nat.le_refl _) h)
      have hbR : ((Tm.mk vr fr ar).size : Int) ≤ 1152921504606846976 := by omega
      have HTR := Lib.hid (fun w' h => tsize0 1152921504606846976 vr fr ar S w' Ar cr (by omega) (Nat.le_refl _) h)
      have HQ0 := Lib.hid (bel_drew (w := w) (o := .cells #[.int .i64 k, .string n, .int .i64 vl, .string fl, .slice Al al.length cl, .int .i64 vr, .string fr, .slice Ar ar.length cr, .slice A ts.length c] 27))
      clear hst hsz hres h hN hl' hl hr hlim hk1
      have e1 : IntKind.i64.wrap (((Tm.mk vl fl al).size : Int) + ((Tm.mk vr fr ar).size : Int)) = ((Tm.mk vl fl al).size : Int) + ((Tm.mk vr fr ar).size : Int) := IntWalk.i64_in _ (by omega)
      have e2 : IntKind.i64.wrap (1 + (((Tm.mk vl fl al).size : Int) + ((Tm.mk vr fr ar).size : Int))) = 1 + (((Tm.mk vl fl al).size : Int) + ((Tm.mk vr fr ar).size : Int)) := IntWalk.i64_in _ (by omega)
      go_enter Tryz.func36, Tryz.ntmps36
      go_wp2_with fail
      go_region_held3 (fun w' => w'.cell? ⟨w.heap.size, 2, none⟩ = some (.int .i64 vl) ∧ w'.cell? ⟨w.heap.size, 3, none⟩ = some (.string fl) ∧ w'.cell? ⟨w.heap.size, 4, none⟩ = some (.slice Al al.length cl) ∧ w'.cell? ⟨w.heap.size, 5, none⟩ = some (.int .i64 vr) ∧ w'.cell? ⟨w.heap.size, 6, none⟩ = some (.string fr) ∧ w'.cell? ⟨w.heap.size, 7, none⟩ = some (.slice Ar ar.length cr)) (go_keep)
        (first
          | (go_at_call_of 63 (Value.agg #[.int .i64 vl, .string fl, .slice Al al.length cl]); refine (HTL.out _ (HL.out.stay (Stay.below (bel_box (by first | exact HQ1.out | exact HQ0.out))))).mono ?_; rintro e w1 ⟨rfl, hb1⟩; have HQ1 := Lib.hid (bel_step (by first | exact HQ1.out | exact HQ0.out) hb1); clear hb1; have z2 := box_cell HQ1.out 2 _ rfl; have z3 := box_cell HQ1.out 3 _ rfl; have z4 := box_cell HQ1.out 4 _ rfl; have z5 := box_cell HQ1.out 5 _ rfl; have z6 := box_cell HQ1.out 6 _ rfl; have z7 := box_cell HQ1.out 7 _ rfl; have z8 := box_cell HQ1.out 8 _ rfl)
          | (go_at_call_of 63 (Value.agg #[.int .i64 vr, .string fr, .slice Ar ar.length cr]); refine (HTR.out _ (HR.out.stay (Stay.below (bel_box (by first | exact HQ1.out | exact HQ0.out))))).mono ?_; rintro e w1 ⟨rfl, hb1⟩; have HQ1 := Lib.hid (bel_step (by first | exact HQ1.out | exact HQ0.out) hb1); clear hb1; have z2 := box_cell HQ1.out 2 _ rfl; have z3 := box_cell HQ1.out 3 _ rfl; have z4 := box_cell HQ1.out 4 _ rfl; have z5 := box_cell HQ1.out 5 _ rfl; have z6 := box_cell HQ1.out 6 _ rfl; have z7 := box_cell HQ1.out 7 _ rfl; have z8 := box_cell HQ1.out 8 _ rfl))
      all_goals
        clear z2 z3 z4 z5 z6 z7 e1 e2
        go_wp2_with fail
        go_loopw [3, 21] (fun va vi wl => ∃ i kk : Nat, i ≤ ts.length ∧ vi = .int .i64 i ∧ va = .int .i64 kk ∧ 1 + ((Tm.mk vl fl al).size + (Tm.mk vr fr ar).size) + Fm.sizes ts = kk + Fm.sizes (ts.drop i) ∧ Below (w.heap.size + 1) (w.alloc (.cells #[.int .i64 k, .string n, .int .i64 vl, .string fl, .slice Al al.length cl, .int .i64 vr, .string fr, .slice Ar ar.length cr, .slice A ts.length c] 27)) wl) (fun _ vi _ => ts.length - (intOf vi).toNat)
        case atStart => exact ⟨0, 1 + ((Tm.mk vl fl al).size + (Tm.mk vr fr ar).size), by omega, rfl, by first | rfl | go_num, by rw [List.drop_zero]; try omega, HQ1.out⟩
        case round =>
          obtain ⟨i, kk, hi, rfl, rfl, hk, hb1⟩ := hrel
          have HK := Lib.hid hk
          have HB1 := Lib.hid hb1
          have HB : Hid (Below w.heap.size w wr) := Lib.hid (bel_box hb1)
          have hbs : w.heap.size + 1 ≤ wr.heap.size := bel_size hb1
          clear hk hb1
          by_cases hlt : i < ts.length
          · obtain ⟨b, o, hA, k', n', vl', fl', al', vr', fr', ar', us, Al', cl', Ar', cr', Ai, ci, hm, hstl, hstr, hsti, k0, k1, k2, k3, k4, k5, k6, k7, k8⟩ := HST.out.at i hlt
            subst hA
            have hbw := World.block_lt_of_cell? w _ k0
            have c0 := (HB.out.cell (p := ⟨b, o + i * 9, none⟩) hbw).trans k0
            have c1 := (HB.out.cell (p := ⟨b, o + i * 9 + 1, none⟩) hbw).trans k1
            have c2 := (HB.out.cell (p := ⟨b, o + i * 9 + 2, none⟩) hbw).trans k2
            have c3 := (HB.out.cell (p := ⟨b, o + i * 9 + 3, none⟩) hbw).trans k3
            have c4 := (HB.out.cell (p := ⟨b, o + i * 9 + 4, none⟩) hbw).trans k4
            have c5 := (HB.out.cell (p := ⟨b, o + i * 9 + 5, none⟩) hbw).trans k5
            have c6 := (HB.out.cell (p := ⟨b, o + i * 9 + 6, none⟩) hbw).trans k6
            have c7 := (HB.out.cell (p := ⟨b, o + i * 9 + 7, none⟩) hbw).trans k7
            have c8 := (HB.out.cell (p := ⟨b, o + i * 9 + 8, none⟩) hbw).trans k8
            have HSTI := Lib.hid hsti
            have HSTL := Lib.hid hstl
            have HSTR := Lib.hid hstr
            clear k0 k1 k2 k3 k4 k5 k6 k7 k8 hsti hstl hstr
            have hd := Fm.sizes_drop ts i hlt
            rw [hm] at hd
            have hIN : (Fm.mk k' n' (.mk vl' fl' al') (.mk vr' fr' ar') us).size ≤ N := by
              have h1 := Fm.sizes_le ts i hlt
              rw [hm] at h1
              have := HH.out
              omega
            have hle := HK.out
            have hnb := HNB.out
            have hh := HH.out
            have hkb : (kk : Int) ≤ 1152921504606846976 := by have h2 : 0 ≤ Fm.sizes (ts.drop i) := Nat.zero_le _; omega
            have hmb : ((Fm.mk k' n' (.mk vl' fl' al') (.mk vr' fr' ar') us).size : Int) ≤ 1152921504606846976 := by omega
            have HD := Lib.hid hd
            have HI := Lib.hid (And.intro hIN hlt)
            clear hd hm hle hnb hh hIN
            go_wp2_with fail
            refine (ih k' n' vl' fl' al' vr' fr' ar' us S _ Al' cl' Ar' cr' Ai ci HI.out.1 (by have := HNB.out; omega) (HSTL.out.stay (Stay.below (by exact HB.out.alloc (by omega) _))) (HSTR.out.stay (Stay.below (by exact HB.out.alloc (by omega) _))) (HSTI.out.stay (Stay.below (by exact HB.out.alloc (by omega) _)))).mono ?_
            rintro e w2 ⟨rfl, hb2⟩
            have HB2 := Lib.hid ((HB1.out.alloc (by omega) _).trans (hb2.mono (by first | omega | (simp; omega))))
            clear hb2
            generalize (Fm.mk k' n' (.mk vl' fl' al') (.mk vr' fr' ar') us).size = q at *
            go_wp2_with fail
            go_roundw
            case rel => exact ⟨i + 1, kk + q, HI.out.2, by go_num, by go_num, by have := HK.out; rw [HD.out] at this; omega, HB2.out⟩
            case measure => have := HI.out.2; simp [intOf]; omega
          · obtain rfl : i = ts.length := by omega
            have hk' := HK.out
            rw [List.drop_length, Fm.sizes] at hk'
            rw [Nat.add_zero] at hk'
            have HK' := Lib.hid hk'
            have d1 : decide (ts.length < ts.length) = false := by simp
            clear hk'
            go_wp2_with fail
            go_ret
            exact ⟨by rw [HK'.out]; rfl, HB.out⟩
    · have hsz : (Fm.mk k n (.mk vl fl al) (.mk vr fr ar) ts).size = 1 + Fm.sizes ts := by rw [Fm.size, if_neg hk1]
      have hres := hsz
      have d0 : (k == 1) = false := by simpa using hk1
      have hlen : ts.length ≤ 1152921504606846976 := by omega
      rw [hres]
      rw [hsz] at h
      have HH := Lib.hid h
      clear hst hsz hres h hN hl' hl hr hlim hk1
      go_enter Tryz.func36, Tryz.ntmps36
      go_wp2_with fail
      go_loopw [3, 21] (fun va vi wl => ∃ i kk : Nat, i ≤ ts.length ∧ vi = .int .i64 i ∧ va = .int .i64 kk ∧ 1 + Fm.sizes ts = kk + Fm.sizes (ts.drop i) ∧ Below (w.heap.size + 1) (w.alloc (.cells #[.int .i64 k, .string n, .int .i64 vl, .string fl, .slice Al al.length cl, .int .i64 vr, .string fr, .slice Ar ar.length cr, .slice A ts.length c] 27)) wl) (fun _ vi _ => ts.length - (intOf vi).toNat)
      case atStart => exact ⟨0, 1, by omega, rfl, by first | rfl | go_num, by rw [List.drop_zero], Below.refl _ _⟩
      case round =>
        obtain ⟨i, kk, hi, rfl, rfl, hk, hb1⟩ := hrel
        have HK := Lib.hid hk
        have HB1 := Lib.hid hb1
        have HB : Hid (Below w.heap.size w wr) := Lib.hid (bel_box hb1)
        have hbs : w.heap.size + 1 ≤ wr.heap.size := bel_size hb1
        clear hk hb1
        by_cases hlt : i < ts.length
        · obtain ⟨b, o, hA, k', n', vl', fl', al', vr', fr', ar', us, Al', cl', Ar', cr', Ai, ci, hm, hstl, hstr, hsti, k0, k1, k2, k3, k4, k5, k6, k7, k8⟩ := HST.out.at i hlt
          subst hA
          have hbw := World.block_lt_of_cell? w _ k0
          have c0 := (HB.out.cell (p := ⟨b, o + i * 9, none⟩) hbw).trans k0
          have c1 := (HB.out.cell (p := ⟨b, o + i * 9 + 1, none⟩) hbw).trans k1
          have c2 := (HB.out.cell (p := ⟨b, o + i * 9 + 2, none⟩) hbw).trans k2
          have c3 := (HB.out.cell (p := ⟨b, o + i * 9 + 3, none⟩) hbw).trans k3
          have c4 := (HB.out.cell (p := ⟨b, o + i * 9 + 4, none⟩) hbw).trans k4
          have c5 := (HB.out.cell (p := ⟨b, o + i * 9 + 5, none⟩) hbw).trans k5
          have c6 := (HB.out.cell (p := ⟨b, o + i * 9 + 6, none⟩) hbw).trans k6
          have c7 := (HB.out.cell (p := ⟨b, o + i * 9 + 7, none⟩) hbw).trans k7
          have c8 := (HB.out.cell (p := ⟨b, o + i * 9 + 8, none⟩) hbw).trans k8
          have HSTI := Lib.hid hsti
          have HSTL := Lib.hid hstl
          have HSTR := Lib.hid hstr
          clear k0 k1 k2 k3 k4 k5 k6 k7 k8 hsti hstl hstr
          have hd := Fm.sizes_drop ts i hlt
          rw [hm] at hd
          have hIN : (Fm.mk k' n' (.mk vl' fl' al') (.mk vr' fr' ar') us).size ≤ N := by
            have h1 := Fm.sizes_le ts i hlt
            rw [hm] at h1
            have := HH.out
            omega
          have hle := HK.out
          have hnb := HNB.out
          have hh := HH.out
          have hkb : (kk : Int) ≤ 1152921504606846976 := by have h2 : 0 ≤ Fm.sizes (ts.drop i) := Nat.zero_le _; omega
          have hmb : ((Fm.mk k' n' (.mk vl' fl' al') (.mk vr' fr' ar') us).size : Int) ≤ 1152921504606846976 := by omega
          have HD := Lib.hid hd
          have HI := Lib.hid (And.intro hIN hlt)
          clear hd hm hle hnb hh hIN
          go_wp2_with fail
          refine (ih k' n' vl' fl' al' vr' fr' ar' us S _ Al' cl' Ar' cr' Ai ci HI.out.1 (by have := HNB.out; omega) (HSTL.out.stay (Stay.below (by exact HB.out.alloc (by omega) _))) (HSTR.out.stay (Stay.below (by exact HB.out.alloc (by omega) _))) (HSTI.out.stay (Stay.below (by exact HB.out.alloc (by omega) _)))).mono ?_
          rintro e w2 ⟨rfl, hb2⟩
          have HB2 := Lib.hid ((HB1.out.alloc (by omega) _).trans (hb2.mono (by first | omega | (simp; omega))))
          clear hb2
          generalize (Fm.mk k' n' (.mk vl' fl' al') (.mk vr' fr' ar') us).size = q at *
          go_wp2_with fail
          go_roundw
          case rel => exact ⟨i + 1, kk + q, HI.out.2, by go_num, by go_num, by have := HK.out; rw [HD.out] at this; omega, HB2.out⟩
          case measure => have := HI.out.2; simp [intOf]; omega
        · obtain rfl : i = ts.length := by omega
          have hk' := HK.out
          rw [List.drop_length, Fm.sizes] at hk'
          rw [Nat.add_zero] at hk'
          have HK' := Lib.hid hk'
          have d1 : decide (ts.length < ts.length) = false := by simp
          clear hk'
          go_wp2_with fail
          go_ret
          exact ⟨by rw [HK'.out]; rfl, HB.out⟩
set_option maxHeartbeats 1600000 in
theorem rfsize0 : ∀ (N : Nat) (k : Int) (n : ByteArray) (vl : Int) (fl : ByteArray) (al : List Tm) (vr : Int) (fr : ByteArray) (ar : List Tm) (ts : List Fm) (S : Nat → Prop) (w : World) (Al : Option Addr) (cl : Nat) (Ar : Option Addr) (cr : Nat) (A : Option Addr) (c : Nat), (Fm.mk k n (.mk vl fl al) (.mk vr fr ar) ts).size ≤ N → N ≤ 1152921504606846976 → ST S w Al al.length cl al → ST S w Ar ar.length cr ar → SF S w A ts.length c ts →
    Calls Tryz.prog 16 #[.agg #[.int .i64 k, .string n, .int .i64 vl, .string fl, .slice Al al.length cl, .int .i64 vr, .string fr, .slice Ar ar.length cr, .slice A ts.length c]] w fun e w' => e = .returned (.int .i64 ((Fm.mk k n (.mk vl fl al) (.mk vr fr ar) ts).size : Nat)) ∧ Below w.heap.size w w' := by
  intro N
  induction N with
  | zero => intro k n vl fl al vr fr ar ts S w Al cl Ar cr A c h; have := Fm.size_pos (Fm.mk k n (.mk vl fl al) (.mk vr fr ar) ts); omega
  | succ N ih =>
    intro k n vl fl al vr fr ar ts S w Al cl Ar cr A c h hN hl hr hst
    have hl' := Fm.sizes_len ts
    have HST := Lib.hid hst
    have HL := Lib.hid hl
    have HR := Lib.hid hr
    have hlim : N + 1 ≤ 1152921504606846976 := hN
    have HNB : Hid (N + 1 ≤ 1152921504606846976) := Lib.hid hN
    by_cases hk1 : k = 1
    · have hsz : (Fm.mk k n (.mk vl fl al) (.mk vr fr ar) ts).size = 1 + ((Tm.mk vl fl al).size + (Tm.mk vr fr ar).size) + Fm.sizes ts := by rw [Fm.size, if_pos hk1]
      have hres := hsz
      have d0 : (k == 1) = true := by simpa using hk1
      have hlen : ts.length ≤ 1152921504606846976 := by omega
      rw [hres]
      rw [hsz] at h
      have HH := Lib.hid h
      have hbL : ((Tm.mk vl fl al).size : Int) ≤ 1152921504606846976 := by omega
      have HTL := Lib.hid (fun w' h => rtsize0 1152921504606846976 vl fl al S w' Al cl (by omega) (Nat.le_refl _) h)
      have hbR : ((Tm.mk vr fr ar).size : Int) ≤ 1152921504606846976 := by omega
      have HTR := Lib.hid (fun w' h => rtsize0 1152921504606846976 vr fr ar S w' Ar cr (by omega) (Nat.le_refl _) h)
      have HQ0 := Lib.hid (bel_drew (w := w) (o := .cells #[.int .i64 k, .string n, .int .i64 vl, .string fl, .slice Al al.length cl, .int .i64 vr, .string fr, .slice Ar ar.length cr, .slice A ts.length c] 27))
      clear hst hsz hres h hN hl' hl hr hlim hk1
      have e1 : IntKind.i64.wrap (1 + ((Tm.mk vl fl al).size : Int)) = 1 + ((Tm.mk vl fl al).size : Int) := IntWalk.i64_in _ (by omega)
      have e2 : IntKind.i64.wrap (1 + ((Tm.mk vl fl al).size : Int) + ((Tm.mk vr fr ar).size : Int)) = 1 + ((Tm.mk vl fl al).size : Int) + ((Tm.mk vr fr ar).size : Int) := IntWalk.i64_in _ (by omega)
      go_enter Tryz.func16, Tryz.ntmps16
      go_wp2_with fail
      go_region_held3 (fun w' => w'.cell? ⟨w.heap.size, 2, none⟩ = some (.int .i64 vl) ∧ w'.cell? ⟨w.heap.size, 3, none⟩ = some (.string fl) ∧ w'.cell? ⟨w.heap.size, 4, none⟩ = some (.slice Al al.length cl) ∧ w'.cell? ⟨w.heap.size, 5, none⟩ = some (.int .i64 vr) ∧ w'.cell? ⟨w.heap.size, 6, none⟩ = some (.string fr) ∧ w'.cell? ⟨w.heap.size, 7, none⟩ = some (.slice Ar ar.length cr)) (go_keep)
        (first
          | (go_at_call_of 32 (Value.agg #[.int .i64 vl, .string fl, .slice Al al.length cl]); refine (HTL.out _ (HL.out.stay (Stay.below (bel_box (by first | exact HQ1.out | exact HQ0.out))))).mono ?_; rintro e w1 ⟨rfl, hb1⟩; have HQ1 := Lib.hid (bel_step (by first | exact HQ1.out | exact HQ0.out) hb1); clear hb1; have z2 := box_cell HQ1.out 2 _ rfl; have z3 := box_cell HQ1.out 3 _ rfl; have z4 := box_cell HQ1.out 4 _ rfl; have z5 := box_cell HQ1.out 5 _ rfl; have z6 := box_cell HQ1.out 6 _ rfl; have z7 := box_cell HQ1.out 7 _ rfl; have z8 := box_cell HQ1.out 8 _ rfl)
          | (go_at_call_of 32 (Value.agg #[.int .i64 vr, .string fr, .slice Ar ar.length cr]); refine (HTR.out _ (HR.out.stay (Stay.below (bel_box (by first | exact HQ1.out | exact HQ0.out))))).mono ?_; rintro e w1 ⟨rfl, hb1⟩; have HQ1 := Lib.hid (bel_step (by first | exact HQ1.out | exact HQ0.out) hb1); clear hb1; have z2 := box_cell HQ1.out 2 _ rfl; have z3 := box_cell HQ1.out 3 _ rfl; have z4 := box_cell HQ1.out 4 _ rfl; have z5 := box_cell HQ1.out 5 _ rfl; have z6 := box_cell HQ1.out 6 _ rfl; have z7 := box_cell HQ1.out 7 _ rfl; have z8 := box_cell HQ1.out 8 _ rfl))
      all_goals
        clear z2 z3 z4 z5 z6 z7 e1 e2
        go_wp2_with fail
        go_loopw [3, 4] (fun va vi wl => ∃ i kk : Nat, i ≤ ts.length ∧ vi = .int .i64 i ∧ va = .int .i64 kk ∧ 1 + ((Tm.mk vl fl al).size + (Tm.mk vr fr ar).size) + Fm.sizes ts = kk + Fm.sizes (ts.drop i) ∧ Below (w.heap.size + 1) (w.alloc (.cells #[.int .i64 k, .string n, .int .i64 vl, .string fl, .slice Al al.length cl, .int .i64 vr, .string fr, .slice Ar ar.length cr, .slice A ts.length c] 27)) wl) (fun _ vi _ => ts.length - (intOf vi).toNat)
        case atStart => exact ⟨0, 1 + ((Tm.mk vl fl al).size + (Tm.mk vr fr ar).size), by omega, rfl, by first | rfl | go_num, by rw [List.drop_zero]; try omega, HQ1.out⟩
        case round =>
          obtain ⟨i, kk, hi, rfl, rfl, hk, hb1⟩ := hrel
          have HK := Lib.hid hk
          have HB1 := Lib.hid hb1
          have HB : Hid (Below w.heap.size w wr) := Lib.hid (bel_box hb1)
          have hbs : w.heap.size + 1 ≤ wr.heap.size := bel_size hb1
          have r0 := box_cell hb1 8 _ rfl
          clear hk hb1
          by_cases hlt : i < ts.length
          · obtain ⟨b, o, hA, k', n', vl', fl', al', vr', fr', ar', us, Al', cl', Ar', cr', Ai, ci, hm, hstl, hstr, hsti, k0, k1, k2, k3, k4, k5, k6, k7, k8⟩ := HST.out.at i hlt
            subst hA
            have hbw := World.block_lt_of_cell? w _ k0
            have c0 := (HB.out.cell (p := ⟨b, o + i * 9, none⟩) hbw).trans k0
            have c1 := (HB.out.cell (p := ⟨b, o + i * 9 + 1, none⟩) hbw).trans k1
            have c2 := (HB.out.cell (p := ⟨b, o + i * 9 + 2, none⟩) hbw).trans k2
            have c3 := (HB.out.cell (p := ⟨b, o + i * 9 + 3, none⟩) hbw).trans k3
            have c4 := (HB.out.cell (p := ⟨b, o + i * 9 + 4, none⟩) hbw).trans k4
            have c5 := (HB.out.cell (p := ⟨b, o + i * 9 + 5, none⟩) hbw).trans k5
            have c6 := (HB.out.cell (p := ⟨b, o + i * 9 + 6, none⟩) hbw).trans k6
            have c7 := (HB.out.cell (p := ⟨b, o + i * 9 + 7, none⟩) hbw).trans k7
            have c8 := (HB.out.cell (p := ⟨b, o + i * 9 + 8, none⟩) hbw).trans k8
            have HSTI := Lib.hid hsti
            have HSTL := Lib.hid hstl
            have HSTR := Lib.hid hstr
            clear k0 k1 k2 k3 k4 k5 k6 k7 k8 hsti hstl hstr
            have hd := Fm.sizes_drop ts i hlt
            rw [hm] at hd
            have hIN : (Fm.mk k' n' (.mk vl' fl' al') (.mk vr' fr' ar') us).size ≤ N := by
              have h1 := Fm.sizes_le ts i hlt
              rw [hm] at h1
              have := HH.out
              omega
            have hle := HK.out
            have hnb := HNB.out
            have hh := HH.out
            have hkb : (kk : Int) ≤ 1152921504606846976 := by have h2 : 0 ≤ Fm.sizes (ts.drop i) := Nat.zero_le _; omega
            have hmb : ((Fm.mk k' n' (.mk vl' fl' al') (.mk vr' fr' ar') us).size : Int) ≤ 1152921504606846976 := by omega
            have HD := Lib.hid hd
            have HI := Lib.hid (And.intro hIN hlt)
            clear hd hm hle hnb hh hIN
            go_wp2_with fail
            refine (ih k' n' vl' fl' al' vr' fr' ar' us S _ Al' cl' Ar' cr' Ai ci HI.out.1 (by have := HNB.out; omega) (HSTL.out.stay (Stay.below (by exact HB.out))) (HSTR.out.stay (Stay.below (by exact HB.out))) (HSTI.out.stay (Stay.below (by exact HB.out)))).mono ?_
            rintro e w2 ⟨rfl, hb2⟩
            have HB2 := Lib.hid ((HB1.out).trans (hb2.mono (by first | omega | (simp; omega))))
            clear hb2
            generalize (Fm.mk k' n' (.mk vl' fl' al') (.mk vr' fr' ar') us).size = q at *
            go_wp2_with fail
            go_roundw
            case rel => exact ⟨i + 1, kk + q, HI.out.2, by go_num, by go_num, by have := HK.out; rw [HD.out] at this; omega, HB2.out⟩
            case measure => have := HI.out.2; simp [intOf]; omega
          · obtain rfl : i = ts.length := by omega
            have hk' := HK.out
            rw [List.drop_length, Fm.sizes] at hk'
            rw [Nat.add_zero] at hk'
            have HK' := Lib.hid hk'
            have d1 : decide (ts.length < ts.length) = false := by simp
            clear hk'
            go_wp2_with fail
            go_ret
            exact ⟨by rw [HK'.out]; rfl, HB.out⟩
    · have hsz : (Fm.mk k n (.mk vl fl al) (.mk vr fr ar) ts).size = 1 + Fm.sizes ts := by rw [Fm.size, if_neg hk1]
      have hres := hsz
      have d0 : (k == 1) = false := by simpa using hk1
      have hlen : ts.length ≤ 1152921504606846976 := by omega
      rw [hres]
      rw [hsz] at h
      have HH := Lib.hid h
      clear hst hsz hres h hN hl' hl hr hlim hk1
      go_enter Tryz.func16, Tryz.ntmps16
      go_wp2_with fail
      go_loopw [3, 4] (fun va vi wl => ∃ i kk : Nat, i ≤ ts.length ∧ vi = .int .i64 i ∧ va = .int .i64 kk ∧ 1 + Fm.sizes ts = kk + Fm.sizes (ts.drop i) ∧ Below (w.heap.size + 1) (w.alloc (.cells #[.int .i64 k, .string n, .int .i64 vl, .string fl, .slice Al al.length cl, .int .i64 vr, .string fr, .slice Ar ar.length cr, .slice A ts.length c] 27)) wl) (fun _ vi _ => ts.length - (intOf vi).toNat)
      case atStart => exact ⟨0, 1, by omega, rfl, by first | rfl | go_num, by rw [List.drop_zero], Below.refl _ _⟩
      case round =>
        obtain ⟨i, kk, hi, rfl, rfl, hk, hb1⟩ := hrel
        have HK := Lib.hid hk
        have HB1 := Lib.hid hb1
        have HB : Hid (Below w.heap.size w wr) := Lib.hid (bel_box hb1)
        have hbs : w.heap.size + 1 ≤ wr.heap.size := bel_size hb1
        have r0 := box_cell hb1 8 _ rfl
        clear hk hb1
        by_cases hlt : i < ts.length
        · obtain ⟨b, o, hA, k', n', vl', fl', al', vr', fr', ar', us, Al', cl', Ar', cr', Ai, ci, hm, hstl, hstr, hsti, k0, k1, k2, k3, k4, k5, k6, k7, k8⟩ := HST.out.at i hlt
          subst hA
          have hbw := World.block_lt_of_cell? w _ k0
          have c0 := (HB.out.cell (p := ⟨b, o + i * 9, none⟩) hbw).trans k0
          have c1 := (HB.out.cell (p := ⟨b, o + i * 9 + 1, none⟩) hbw).trans k1
          have c2 := (HB.out.cell (p := ⟨b, o + i * 9 + 2, none⟩) hbw).trans k2
          have c3 := (HB.out.cell (p := ⟨b, o + i * 9 + 3, none⟩) hbw).trans k3
          have c4 := (HB.out.cell (p := ⟨b, o + i * 9 + 4, none⟩) hbw).trans k4
          have c5 := (HB.out.cell (p := ⟨b, o + i * 9 + 5, none⟩) hbw).trans k5
          have c6 := (HB.out.cell (p := ⟨b, o + i * 9 + 6, none⟩) hbw).trans k6
          have c7 := (HB.out.cell (p := ⟨b, o + i * 9 + 7, none⟩) hbw).trans k7
          have c8 := (HB.out.cell (p := ⟨b, o + i * 9 + 8, none⟩) hbw).trans k8
          have HSTI := Lib.hid hsti
          have HSTL := Lib.hid hstl
          have HSTR := Lib.hid hstr
          clear k0 k1 k2 k3 k4 k5 k6 k7 k8 hsti hstl hstr
          have hd := Fm.sizes_drop ts i hlt
          rw [hm] at hd
          have hIN : (Fm.mk k' n' (.mk vl' fl' al') (.mk vr' fr' ar') us).size ≤ N := by
            have h1 := Fm.sizes_le ts i hlt
            rw [hm] at h1
            have := HH.out
            omega
          have hle := HK.out
          have hnb := HNB.out
          have hh := HH.out
          have hkb : (kk : Int) ≤ 1152921504606846976 := by have h2 : 0 ≤ Fm.sizes (ts.drop i) := Nat.zero_le _; omega
          have hmb : ((Fm.mk k' n' (.mk vl' fl' al') (.mk vr' fr' ar') us).size : Int) ≤ 1152921504606846976 := by omega
          have HD := Lib.hid hd
          have HI := Lib.hid (And.intro hIN hlt)
          clear hd hm hle hnb hh hIN
          go_wp2_with fail
          refine (ih k' n' vl' fl' al' vr' fr' ar' us S _ Al' cl' Ar' cr' Ai ci HI.out.1 (by have := HNB.out; omega) (HSTL.out.stay (Stay.below (by exact HB.out))) (HSTR.out.stay (Stay.below (by exact HB.out))) (HSTI.out.stay (Stay.below (by exact HB.out)))).mono ?_
          rintro e w2 ⟨rfl, hb2⟩
          have HB2 := Lib.hid ((HB1.out).trans (hb2.mono (by first | omega | (simp; omega))))
          clear hb2
          generalize (Fm.mk k' n' (.mk vl' fl' al') (.mk vr' fr' ar') us).size = q at *
          go_wp2_with fail
          go_roundw
          case rel => exact ⟨i + 1, kk + q, HI.out.2, by go_num, by go_num, by have := HK.out; rw [HD.out] at this; omega, HB2.out⟩
          case measure => have := HI.out.2; simp [intOf]; omega
        · obtain rfl : i = ts.length := by omega
          have hk' := HK.out
          rw [List.drop_length, Fm.sizes] at hk'
          rw [Nat.add_zero] at hk'
          have HK' := Lib.hid hk'
          have d1 : decide (ts.length < ts.length) = false := by simp
          clear hk'
          go_wp2_with fail
          go_ret
          exact ⟨by rw [HK'.out]; rfl, HB.out⟩
set_option maxHeartbeats 1600000 in
theorem fdepth0 : ∀ (N : Nat) (k : Int) (n : ByteArray) (vl : Int) (fl : ByteArray) (al : List Tm) (vr : Int) (fr : ByteArray) (ar : List Tm) (ts : List Fm) (S : Nat → Prop) (w : World) (Al : Option Addr) (cl : Nat) (Ar : Option Addr) (cr : Nat) (A : Option Addr) (c : Nat), (Fm.mk k n (.mk vl fl al) (.mk vr fr ar) ts).size ≤ N → N ≤ 1152921504606846976 → ST S w Al al.length cl al → ST S w Ar ar.length cr ar → SF S w A ts.length c ts →
    Calls Tryz.prog 37 #[.agg #[.int .i64 k, .string n, .int .i64 vl, .string fl, .slice Al al.length cl, .int .i64 vr, .string fr, .slice Ar ar.length cr, .slice A ts.length c]] w fun e w' => e = .returned (.int .i64 ((Fm.mk k n (.mk vl fl al) (.mk vr fr ar) ts).depth : Nat)) ∧ Below w.heap.size w w' := by
  intro N
  induction N with
  | zero => intro k n vl fl al vr fr ar ts S w Al cl Ar cr A c h; have := Fm.size_pos (Fm.mk k n (.mk vl fl al) (.mk vr fr ar) ts); omega
  | succ N ih =>
    intro k n vl fl al vr fr ar ts S w Al cl Ar cr A c h hN hl hr hst
    have hdl := Fm.depths_le ts
    have hl' := Fm.sizes_len ts
    have HST := Lib.hid hst
    have HL := Lib.hid hl
    have HR := Lib.hid hr
    have hlim : N + 1 ≤ 1152921504606846976 := hN
    have HNB : Hid (N + 1 ≤ 1152921504606846976) := Lib.hid hN
    by_cases hk1 : k = 1
    · have hsz : (Fm.mk k n (.mk vl fl al) (.mk vr fr ar) ts).size = 1 + ((Tm.mk vl fl al).size + (Tm.mk vr fr ar).size) + Fm.sizes ts := by rw [Fm.size, if_pos hk1]
      have hres : (Fm.mk k n (.mk vl fl al) (.mk vr fr ar) ts).depth = max (max (Tm.mk vl fl al).depth (Tm.mk vr fr ar).depth) (Fm.depths ts) + 1 := by rw [Fm.depth, if_pos hk1]
      have hdL := Tm.depth_le (.mk vl fl al)
      have hdR := Tm.depth_le (.mk vr fr ar)
      have d0 : (k == 1) = true := by simpa using hk1
      have hlen : ts.length ≤ 1152921504606846976 := by omega
      rw [hres]
      rw [hsz] at h
      have HH := Lib.hid h
      have hbL : ((Tm.mk vl fl al).depth : Int) ≤ 1152921504606846976 := by omega
      have HTL := Lib.hid (fun w' h => tdepth0 1152921504606846976 vl fl al S w' Al cl (by omega) (Nat.le_refl _) h)
      have hbR : ((Tm.mk vr fr ar).depth : Int) ≤ 1152921504606846976 := by omega
      have HTR := Lib.hid (fun w' h => tdepth0 1152921504606846976 vr fr ar S w' Ar cr (by omega) (Nat.le_refl _) h)
      have HQ0 := Lib.hid (bel_drew (w := w) (o := .cells #[.int .i64 k, .string n, .int .i64 vl, .string fl, .slice Al al.length cl, .int .i64 vr, .string fr, .slice Ar ar.length cr, .slice A ts.length c] 27))
      clear hst hsz hres h hN hl' hl hr hlim hk1 hdl hdL hdR
      have HDD := Lib.hid (And.intro (Tm.depth_le (.mk vl fl al)) (Tm.depth_le (.mk vr fr ar)))
      by_cases hmx : (Tm.mk vl fl al).depth < (Tm.mk vr fr ar).depth
      · have hmx1 : max (Tm.mk vl fl al).depth (Tm.mk vr fr ar).depth = (Tm.mk vr fr ar).depth := by omega
        rw [hmx1]
        have HMX0 := Lib.hid hmx1
        clear hmx1
        go_enter Tryz.func37, Tryz.ntmps37
        go_wp2_with fail
        go_region_held3 (fun w' => w'.cell? ⟨w.heap.size, 2, none⟩ = some (.int .i64 vl) ∧ w'.cell? ⟨w.heap.size, 3, none⟩ = some (.string fl) ∧ w'.cell? ⟨w.heap.size, 4, none⟩ = some (.slice Al al.length cl) ∧ w'.cell? ⟨w.heap.size, 5, none⟩ = some (.int .i64 vr) ∧ w'.cell? ⟨w.heap.size, 6, none⟩ = some (.string fr) ∧ w'.cell? ⟨w.heap.size, 7, none⟩ = some (.slice Ar ar.length cr)) (go_keep)
          (first
            | (go_at_call_of 64 (Value.agg #[.int .i64 vl, .string fl, .slice Al al.length cl]); refine (HTL.out _ (HL.out.stay (Stay.below (bel_box (by first | exact HQ1.out | exact HQ0.out))))).mono ?_; rintro e w1 ⟨rfl, hb1⟩; have HQ1 := Lib.hid (bel_step (by first | exact HQ1.out | exact HQ0.out) hb1); clear hb1; have z2 := box_cell HQ1.out 2 _ rfl; have z3 := box_cell HQ1.out 3 _ rfl; have z4 := box_cell HQ1.out 4 _ rfl; have z5 := box_cell HQ1.out 5 _ rfl; have z6 := box_cell HQ1.out 6 _ rfl; have z7 := box_cell HQ1.out 7 _ rfl; have z8 := box_cell HQ1.out 8 _ rfl)
            | (go_at_call_of 64 (Value.agg #[.int .i64 vr, .string fr, .slice Ar ar.length cr]); refine (HTR.out _ (HR.out.stay (Stay.below (bel_box (by first | exact HQ1.out | exact HQ0.out))))).mono ?_; rintro e w1 ⟨rfl, hb1⟩; have HQ1 := Lib.hid (bel_step (by first | exact HQ1.out | exact HQ0.out) hb1); clear hb1; have z2 := box_cell HQ1.out 2 _ rfl; have z3 := box_cell HQ1.out 3 _ rfl; have z4 := box_cell HQ1.out 4 _ rfl; have z5 := box_cell HQ1.out 5 _ rfl; have z6 := box_cell HQ1.out 6 _ rfl; have z7 := box_cell HQ1.out 7 _ rfl; have z8 := box_cell HQ1.out 8 _ rfl))
        all_goals
          clear z2 z3 z4 z5 z6 z7
          go_wp2_with fail
          go_loopw [3, 19] (fun va vi wl => ∃ i kk : Nat, i ≤ ts.length ∧ vi = .int .i64 i ∧ va = .int .i64 kk ∧ max (Tm.mk vr fr ar).depth (Fm.depths ts) = max kk (Fm.depths (ts.drop i)) ∧ Below (w.heap.size + 1) (w.alloc (.cells #[.int .i64 k, .string n, .int .i64 vl, .string fl, .slice Al al.length cl, .int .i64 vr, .string fr, .slice Ar ar.length cr, .slice A ts.length c] 27)) wl) (fun _ vi _ => ts.length - (intOf vi).toNat)
          case atStart => exact ⟨0, (Tm.mk vr fr ar).depth, by omega, rfl, by first | rfl | go_num, by rw [List.drop_zero]; try omega, HQ1.out⟩
          case round =>
            obtain ⟨i, kk, hi, rfl, rfl, hk, hb1⟩ := hrel
            have HK := Lib.hid hk
            have HB1 := Lib.hid hb1
            have HB : Hid (Below w.heap.size w wr) := Lib.hid (bel_box hb1)
            have hbs : w.heap.size + 1 ≤ wr.heap.size := bel_size hb1
            clear hk hb1
            by_cases hlt : i < ts.length
            · obtain ⟨b, o, hA, k', n', vl', fl', al', vr', fr', ar', us, Al', cl', Ar', cr', Ai, ci, hm, hstl, hstr, hsti, k0, k1, k2, k3, k4, k5, k6, k7, k8⟩ := HST.out.at i hlt
              subst hA
              have hbw := World.block_lt_of_cell? w _ k0
              have c0 := (HB.out.cell (p := ⟨b, o + i * 9, none⟩) hbw).trans k0
              have c1 := (HB.out.cell (p := ⟨b, o + i * 9 + 1, none⟩) hbw).trans k1
              have c2 := (HB.out.cell (p := ⟨b, o + i * 9 + 2, none⟩) hbw).trans k2
              have c3 := (HB.out.cell (p := ⟨b, o + i * 9 + 3, none⟩) hbw).trans k3
              have c4 := (HB.out.cell (p := ⟨b, o + i * 9 + 4, none⟩) hbw).trans k4
              have c5 := (HB.out.cell (p := ⟨b, o + i * 9 + 5, none⟩) hbw).trans k5
              have c6 := (HB.out.cell (p := ⟨b, o + i * 9 + 6, none⟩) hbw).trans k6
              have c7 := (HB.out.cell (p := ⟨b, o + i * 9 + 7, none⟩) hbw).trans k7
              have c8 := (HB.out.cell (p := ⟨b, o + i * 9 + 8, none⟩) hbw).trans k8
              have HSTI := Lib.hid hsti
              have HSTL := Lib.hid hstl
              have HSTR := Lib.hid hstr
              clear k0 k1 k2 k3 k4 k5 k6 k7 k8 hsti hstl hstr
              have hd := Fm.depths_drop ts i hlt
              rw [hm] at hd
              have hd' := Fm.depth_le (Fm.mk k' n' (.mk vl' fl' al') (.mk vr' fr' ar') us)
              have hIN : (Fm.mk k' n' (.mk vl' fl' al') (.mk vr' fr' ar') us).size ≤ N := by
                have h1 := Fm.sizes_le ts i hlt
                rw [hm] at h1
                have := HH.out
                omega
              have hle := HK.out
              have hnb := HNB.out
              have hh := HH.out
              have hkb : (kk : Int) ≤ 1152921504606846976 := by have hdl := Fm.depths_le ts; omega
              have hmb : ((Fm.mk k' n' (.mk vl' fl' al') (.mk vr' fr' ar') us).depth : Int) ≤ 1152921504606846976 := by omega
              have HD := Lib.hid hd
              have HI := Lib.hid (And.intro hIN hlt)
              clear hd hm hle hnb hh hIN hd'
              go_wp2_with fail
              refine (ih k' n' vl' fl' al' vr' fr' ar' us S _ Al' cl' Ar' cr' Ai ci HI.out.1 (by have := HNB.out; omega) (HSTL.out.stay (Stay.below (by exact HB.out.alloc (by omega) _))) (HSTR.out.stay (Stay.below (by exact HB.out.alloc (by omega) _))) (HSTI.out.stay (Stay.below (by exact HB.out.alloc (by omega) _)))).mono ?_
              rintro e w2 ⟨rfl, hb2⟩
              have HB2 := Lib.hid ((HB1.out.alloc (by omega) _).trans (hb2.mono (by first | omega | (simp; omega))))
              clear hb2
              generalize (Fm.mk k' n' (.mk vl' fl' al') (.mk vr' fr' ar') us).depth = q at *
              by_cases hmx : kk < q
              · have hmx1 : (max kk q : Nat) = q := by omega
                have HMX := Lib.hid hmx1
                clear hmx1
                go_wp2_with fail
                go_roundw
                case rel => exact ⟨i + 1, q, HI.out.2, by go_num, by go_num, by have := HK.out; rw [HD.out] at this; have := HMX.out; omega, HB2.out⟩
                case measure => have := HI.out.2; simp [intOf]; omega
              · have hmx1 : (max kk q : Nat) = kk := by omega
                have HMX := Lib.hid hmx1
                clear hmx1
                go_wp2_with fail
                go_roundw
                case rel => exact ⟨i + 1, kk, HI.out.2, by go_num, by go_num, by have := HK.out; rw [HD.out] at this; have := HMX.out; omega, HB2.out⟩
                case measure => have := HI.out.2; simp [intOf]; omega
            · obtain rfl : i = ts.length := by omega
              have hk' := HK.out
              rw [List.drop_length, Fm.depths] at hk'
              rw [Nat.max_zero] at hk'
              have hdl := Fm.depths_le ts
              have hh := HH.out
              have hnb := HNB.out
              have hkb : (kk : Int) ≤ 1152921504606846976 := by omega
              have HK' := Lib.hid hk'
              have d1 : decide (ts.length < ts.length) = false := by simp
              clear hk' hdl hh hnb
              go_wp2_with fail
              go_ret
              exact ⟨by rw [HK'.out]; show Ending.returned _ = _; congr 1, HB.out⟩
      · have hmx1 : max (Tm.mk vl fl al).depth (Tm.mk vr fr ar).depth = (Tm.mk vl fl al).depth := by omega
        rw [hmx1]
        have HMX0 := Lib.hid hmx1
        clear hmx1
        go_enter Tryz.func37, Tryz.ntmps37
        go_wp2_with fail
        go_region_held3 (fun w' => w'.cell? ⟨w.heap.size, 2, none⟩ = some (.int .i64 vl) ∧ w'.cell? ⟨w.heap.size, 3, none⟩ = some (.string fl) ∧ w'.cell? ⟨w.heap.size, 4, none⟩ = some (.slice Al al.length cl) ∧ w'.cell? ⟨w.heap.size, 5, none⟩ = some (.int .i64 vr) ∧ w'.cell? ⟨w.heap.size, 6, none⟩ = some (.string fr) ∧ w'.cell? ⟨w.heap.size, 7, none⟩ = some (.slice Ar ar.length cr)) (go_keep)
          (first
            | (go_at_call_of 64 (Value.agg #[.int .i64 vl, .string fl, .slice Al al.length cl]); refine (HTL.out _ (HL.out.stay (Stay.below (bel_box (by first | exact HQ1.out | exact HQ0.out))))).mono ?_; rintro e w1 ⟨rfl, hb1⟩; have HQ1 := Lib.hid (bel_step (by first | exact HQ1.out | exact HQ0.out) hb1); clear hb1; have z2 := box_cell HQ1.out 2 _ rfl; have z3 := box_cell HQ1.out 3 _ rfl; have z4 := box_cell HQ1.out 4 _ rfl; have z5 := box_cell HQ1.out 5 _ rfl; have z6 := box_cell HQ1.out 6 _ rfl; have z7 := box_cell HQ1.out 7 _ rfl; have z8 := box_cell HQ1.out 8 _ rfl)
            | (go_at_call_of 64 (Value.agg #[.int .i64 vr, .string fr, .slice Ar ar.length cr]); refine (HTR.out _ (HR.out.stay (Stay.below (bel_box (by first | exact HQ1.out | exact HQ0.out))))).mono ?_; rintro e w1 ⟨rfl, hb1⟩; have HQ1 := Lib.hid (bel_step (by first | exact HQ1.out | exact HQ0.out) hb1); clear hb1; have z2 := box_cell HQ1.out 2 _ rfl; have z3 := box_cell HQ1.out 3 _ rfl; have z4 := box_cell HQ1.out 4 _ rfl; have z5 := box_cell HQ1.out 5 _ rfl; have z6 := box_cell HQ1.out 6 _ rfl; have z7 := box_cell HQ1.out 7 _ rfl; have z8 := box_cell HQ1.out 8 _ rfl))
        all_goals
          clear z2 z3 z4 z5 z6 z7
          go_wp2_with fail
          go_loopw [3, 19] (fun va vi wl => ∃ i kk : Nat, i ≤ ts.length ∧ vi = .int .i64 i ∧ va = .int .i64 kk ∧ max (Tm.mk vl fl al).depth (Fm.depths ts) = max kk (Fm.depths (ts.drop i)) ∧ Below (w.heap.size + 1) (w.alloc (.cells #[.int .i64 k, .string n, .int .i64 vl, .string fl, .slice Al al.length cl, .int .i64 vr, .string fr, .slice Ar ar.length cr, .slice A ts.length c] 27)) wl) (fun _ vi _ => ts.length - (intOf vi).toNat)
          case atStart => exact ⟨0, (Tm.mk vl fl al).depth, by omega, rfl, by first | rfl | go_num, by rw [List.drop_zero]; try omega, HQ1.out⟩
          case round =>
            obtain ⟨i, kk, hi, rfl, rfl, hk, hb1⟩ := hrel
            have HK := Lib.hid hk
            have HB1 := Lib.hid hb1
            have HB : Hid (Below w.heap.size w wr) := Lib.hid (bel_box hb1)
            have hbs : w.heap.size + 1 ≤ wr.heap.size := bel_size hb1
            clear hk hb1
            by_cases hlt : i < ts.length
            · obtain ⟨b, o, hA, k', n', vl', fl', al', vr', fr', ar', us, Al', cl', Ar', cr', Ai, ci, hm, hstl, hstr, hsti, k0, k1, k2, k3, k4, k5, k6, k7, k8⟩ := HST.out.at i hlt
              subst hA
              have hbw := World.block_lt_of_cell? w _ k0
              have c0 := (HB.out.cell (p := ⟨b, o + i * 9, none⟩) hbw).trans k0
              have c1 := (HB.out.cell (p := ⟨b, o + i * 9 + 1, none⟩) hbw).trans k1
              have c2 := (HB.out.cell (p := ⟨b, o + i * 9 + 2, none⟩) hbw).trans k2
              have c3 := (HB.out.cell (p := ⟨b, o + i * 9 + 3, none⟩) hbw).trans k3
              have c4 := (HB.out.cell (p := ⟨b, o + i * 9 + 4, none⟩) hbw).trans k4
              have c5 := (HB.out.cell (p := ⟨b, o + i * 9 + 5, none⟩) hbw).trans k5
              have c6 := (HB.out.cell (p := ⟨b, o + i * 9 + 6, none⟩) hbw).trans k6
              have c7 := (HB.out.cell (p := ⟨b, o + i * 9 + 7, none⟩) hbw).trans k7
              have c8 := (HB.out.cell (p := ⟨b, o + i * 9 + 8, none⟩) hbw).trans k8
              have HSTI := Lib.hid hsti
              have HSTL := Lib.hid hstl
              have HSTR := Lib.hid hstr
              clear k0 k1 k2 k3 k4 k5 k6 k7 k8 hsti hstl hstr
              have hd := Fm.depths_drop ts i hlt
              rw [hm] at hd
              have hd' := Fm.depth_le (Fm.mk k' n' (.mk vl' fl' al') (.mk vr' fr' ar') us)
              have hIN : (Fm.mk k' n' (.mk vl' fl' al') (.mk vr' fr' ar') us).size ≤ N := by
                have h1 := Fm.sizes_le ts i hlt
                rw [hm] at h1
                have := HH.out
                omega
              have hle := HK.out
              have hnb := HNB.out
              have hh := HH.out
              have hkb : (kk : Int) ≤ 1152921504606846976 := by have hdl := Fm.depths_le ts; omega
              have hmb : ((Fm.mk k' n' (.mk vl' fl' al') (.mk vr' fr' ar') us).depth : Int) ≤ 1152921504606846976 := by omega
              have HD := Lib.hid hd
              have HI := Lib.hid (And.intro hIN hlt)
              clear hd hm hle hnb hh hIN hd'
              go_wp2_with fail
              refine (ih k' n' vl' fl' al' vr' fr' ar' us S _ Al' cl' Ar' cr' Ai ci HI.out.1 (by have := HNB.out; omega) (HSTL.out.stay (Stay.below (by exact HB.out.alloc (by omega) _))) (HSTR.out.stay (Stay.below (by exact HB.out.alloc (by omega) _))) (HSTI.out.stay (Stay.below (by exact HB.out.alloc (by omega) _)))).mono ?_
              rintro e w2 ⟨rfl, hb2⟩
              have HB2 := Lib.hid ((HB1.out.alloc (by omega) _).trans (hb2.mono (by first | omega | (simp; omega))))
              clear hb2
              generalize (Fm.mk k' n' (.mk vl' fl' al') (.mk vr' fr' ar') us).depth = q at *
              by_cases hmx : kk < q
              · have hmx1 : (max kk q : Nat) = q := by omega
                have HMX := Lib.hid hmx1
                clear hmx1
                go_wp2_with fail
                go_roundw
                case rel => exact ⟨i + 1, q, HI.out.2, by go_num, by go_num, by have := HK.out; rw [HD.out] at this; have := HMX.out; omega, HB2.out⟩
                case measure => have := HI.out.2; simp [intOf]; omega
              · have hmx1 : (max kk q : Nat) = kk := by omega
                have HMX := Lib.hid hmx1
                clear hmx1
                go_wp2_with fail
                go_roundw
                case rel => exact ⟨i + 1, kk, HI.out.2, by go_num, by go_num, by have := HK.out; rw [HD.out] at this; have := HMX.out; omega, HB2.out⟩
                case measure => have := HI.out.2; simp [intOf]; omega
            · obtain rfl : i = ts.length := by omega
              have hk' := HK.out
              rw [List.drop_length, Fm.depths] at hk'
              rw [Nat.max_zero] at hk'
              have hdl := Fm.depths_le ts
              have hh := HH.out
              have hnb := HNB.out
              have hkb : (kk : Int) ≤ 1152921504606846976 := by omega
              have HK' := Lib.hid hk'
              have d1 : decide (ts.length < ts.length) = false := by simp
              clear hk' hdl hh hnb
              go_wp2_with fail
              go_ret
              exact ⟨by rw [HK'.out]; show Ending.returned _ = _; congr 1, HB.out⟩
    · have hsz : (Fm.mk k n (.mk vl fl al) (.mk vr fr ar) ts).size = 1 + Fm.sizes ts := by rw [Fm.size, if_neg hk1]
      have hres : (Fm.mk k n (.mk vl fl al) (.mk vr fr ar) ts).depth = max 0 (Fm.depths ts) + 1 := by rw [Fm.depth, if_neg hk1]
      have d0 : (k == 1) = false := by simpa using hk1
      have hlen : ts.length ≤ 1152921504606846976 := by omega
      rw [hres]
      rw [hsz] at h
      have HH := Lib.hid h
      clear hst hsz hres h hN hl' hl hr hlim hk1 hdl
      go_enter Tryz.func37, Tryz.ntmps37
      go_wp2_with fail
      go_loopw [3, 19] (fun va vi wl => ∃ i kk : Nat, i ≤ ts.length ∧ vi = .int .i64 i ∧ va = .int .i64 kk ∧ max 0 (Fm.depths ts) = max kk (Fm.depths (ts.drop i)) ∧ Below (w.heap.size + 1) (w.alloc (.cells #[.int .i64 k, .string n, .int .i64 vl, .string fl, .slice Al al.length cl, .int .i64 vr, .string fr, .slice Ar ar.length cr, .slice A ts.length c] 27)) wl) (fun _ vi _ => ts.length - (intOf vi).toNat)
      case atStart => exact ⟨0, 0, by omega, rfl, by first | rfl | go_num, by rw [List.drop_zero], Below.refl _ _⟩
      case round =>
        obtain ⟨i, kk, hi, rfl, rfl, hk, hb1⟩ := hrel
        have HK := Lib.hid hk
        have HB1 := Lib.hid hb1
        have HB : Hid (Below w.heap.size w wr) := Lib.hid (bel_box hb1)
        have hbs : w.heap.size + 1 ≤ wr.heap.size := bel_size hb1
        clear hk hb1
        by_cases hlt : i < ts.length
        · obtain ⟨b, o, hA, k', n', vl', fl', al', vr', fr', ar', us, Al', cl', Ar', cr', Ai, ci, hm, hstl, hstr, hsti, k0, k1, k2, k3, k4, k5, k6, k7, k8⟩ := HST.out.at i hlt
          subst hA
          have hbw := World.block_lt_of_cell? w _ k0
          have c0 := (HB.out.cell (p := ⟨b, o + i * 9, none⟩) hbw).trans k0
          have c1 := (HB.out.cell (p := ⟨b, o + i * 9 + 1, none⟩) hbw).trans k1
          have c2 := (HB.out.cell (p := ⟨b, o + i * 9 + 2, none⟩) hbw).trans k2
          have c3 := (HB.out.cell (p := ⟨b, o + i * 9 + 3, none⟩) hbw).trans k3
          have c4 := (HB.out.cell (p := ⟨b, o + i * 9 + 4, none⟩) hbw).trans k4
          have c5 := (HB.out.cell (p := ⟨b, o + i * 9 + 5, none⟩) hbw).trans k5
          have c6 := (HB.out.cell (p := ⟨b, o + i * 9 + 6, none⟩) hbw).trans k6
          have c7 := (HB.out.cell (p := ⟨b, o + i * 9 + 7, none⟩) hbw).trans k7
          have c8 := (HB.out.cell (p := ⟨b, o + i * 9 + 8, none⟩) hbw).trans k8
          have HSTI := Lib.hid hsti
          have HSTL := Lib.hid hstl
          have HSTR := Lib.hid hstr
          clear k0 k1 k2 k3 k4 k5 k6 k7 k8 hsti hstl hstr
          have hd := Fm.depths_drop ts i hlt
          rw [hm] at hd
          have hd' := Fm.depth_le (Fm.mk k' n' (.mk vl' fl' al') (.mk vr' fr' ar') us)
          have hIN : (Fm.mk k' n' (.mk vl' fl' al') (.mk vr' fr' ar') us).size ≤ N := by
            have h1 := Fm.sizes_le ts i hlt
            rw [hm] at h1
            have := HH.out
            omega
          have hle := HK.out
          have hnb := HNB.out
          have hh := HH.out
          have hkb : (kk : Int) ≤ 1152921504606846976 := by have hdl := Fm.depths_le ts; omega
          have hmb : ((Fm.mk k' n' (.mk vl' fl' al') (.mk vr' fr' ar') us).depth : Int) ≤ 1152921504606846976 := by omega
          have HD := Lib.hid hd
          have HI := Lib.hid (And.intro hIN hlt)
          clear hd hm hle hnb hh hIN hd'
          go_wp2_with fail
          refine (ih k' n' vl' fl' al' vr' fr' ar' us S _ Al' cl' Ar' cr' Ai ci HI.out.1 (by have := HNB.out; omega) (HSTL.out.stay (Stay.below (by exact HB.out.alloc (by omega) _))) (HSTR.out.stay (Stay.below (by exact HB.out.alloc (by omega) _))) (HSTI.out.stay (Stay.below (by exact HB.out.alloc (by omega) _)))).mono ?_
          rintro e w2 ⟨rfl, hb2⟩
          have HB2 := Lib.hid ((HB1.out.alloc (by omega) _).trans (hb2.mono (by first | omega | (simp; omega))))
          clear hb2
          generalize (Fm.mk k' n' (.mk vl' fl' al') (.mk vr' fr' ar') us).depth = q at *
          by_cases hmx : kk < q
          · have hmx1 : (max kk q : Nat) = q := by omega
            have HMX := Lib.hid hmx1
            clear hmx1
            go_wp2_with fail
            go_roundw
            case rel => exact ⟨i + 1, q, HI.out.2, by go_num, by go_num, by have := HK.out; rw [HD.out] at this; have := HMX.out; omega, HB2.out⟩
            case measure => have := HI.out.2; simp [intOf]; omega
          · have hmx1 : (max kk q : Nat) = kk := by omega
            have HMX := Lib.hid hmx1
            clear hmx1
            go_wp2_with fail
            go_roundw
            case rel => exact ⟨i + 1, kk, HI.out.2, by go_num, by go_num, by have := HK.out; rw [HD.out] at this; have := HMX.out; omega, HB2.out⟩
            case measure => have := HI.out.2; simp [intOf]; omega
        · obtain rfl : i = ts.length := by omega
          have hk' := HK.out
          rw [List.drop_length, Fm.depths] at hk'
          rw [Nat.max_zero] at hk'
          have hdl := Fm.depths_le ts
          have hh := HH.out
          have hnb := HNB.out
          have hkb : (kk : Int) ≤ 1152921504606846976 := by omega
          have HK' := Lib.hid hk'
          have d1 : decide (ts.length < ts.length) = false := by simp
          clear hk' hdl hh hnb
          go_wp2_with fail
          go_ret
          exact ⟨by rw [HK'.out]; show Ending.returned _ = _; congr 1, HB.out⟩
set_option maxHeartbeats 1600000 in
theorem rfdepth0 : ∀ (N : Nat) (k : Int) (n : ByteArray) (vl : Int) (fl : ByteArray) (al : List Tm) (vr : Int) (fr : ByteArray) (ar : List Tm) (ts : List Fm) (S : Nat → Prop) (w : World) (Al : Option Addr) (cl : Nat) (Ar : Option Addr) (cr : Nat) (A : Option Addr) (c : Nat), (Fm.mk k n (.mk vl fl al) (.mk vr fr ar) ts).size ≤ N → N ≤ 1152921504606846976 → ST S w Al al.length cl al → ST S w Ar ar.length cr ar → SF S w A ts.length c ts →
    Calls Tryz.prog 30 #[.agg #[.int .i64 k, .string n, .int .i64 vl, .string fl, .slice Al al.length cl, .int .i64 vr, .string fr, .slice Ar ar.length cr, .slice A ts.length c]] w fun e w' => e = .returned (.int .i64 ((Fm.mk k n (.mk vl fl al) (.mk vr fr ar) ts).depth : Nat)) ∧ Below w.heap.size w w' := by
  intro N
  induction N with
  | zero => intro k n vl fl al vr fr ar ts S w Al cl Ar cr A c h; have := Fm.size_pos (Fm.mk k n (.mk vl fl al) (.mk vr fr ar) ts); omega
  | succ N ih =>
    intro k n vl fl al vr fr ar ts S w Al cl Ar cr A c h hN hl hr hst
    have hdl := Fm.depths_le ts
    have hl' := Fm.sizes_len ts
    have HST := Lib.hid hst
    have HL := Lib.hid hl
    have HR := Lib.hid hr
    have hlim : N + 1 ≤ 1152921504606846976 := hN
    have HNB : Hid (N + 1 ≤ 1152921504606846976) := Lib.hid hN
    by_cases hk1 : k = 1
    · have hsz : (Fm.mk k n (.mk vl fl al) (.mk vr fr ar) ts).size = 1 + ((Tm.mk vl fl al).size + (Tm.mk vr fr ar).size) + Fm.sizes ts := by rw [Fm.size, if_pos hk1]
      have hres : (Fm.mk k n (.mk vl fl al) (.mk vr fr ar) ts).depth = max (max (Tm.mk vl fl al).depth (Tm.mk vr fr ar).depth) (Fm.depths ts) + 1 := by rw [Fm.depth, if_pos hk1]
      have hdL := Tm.depth_le (.mk vl fl al)
      have hdR := Tm.depth_le (.mk vr fr ar)
      have d0 : (k == 1) = true := by simpa using hk1
      have hlen : ts.length ≤ 1152921504606846976 := by omega
      rw [hres]
      rw [hsz] at h
      have HH := Lib.hid h
      have hbL : ((Tm.mk vl fl al).depth : Int) ≤ 1152921504606846976 := by omega
      have HTL := Lib.hid (fun w' h => rtdepth0 1152921504606846976 vl fl al S w' Al cl (by omega) (Nat.le_refl _) h)
      have hbR : ((Tm.mk vr fr ar).depth : Int) ≤ 1152921504606846976 := by omega
      have HTR := Lib.hid (fun w' h => rtdepth0 1152921504606846976 vr fr ar S w' Ar cr (by omega) (Nat.le_refl _) h)
      have HQ0 := Lib.hid (bel_drew (w := w) (o := .cells #[.int .i64 k, .string n, .int .i64 vl, .string fl, .slice Al al.length cl, .int .i64 vr, .string fr, .slice Ar ar.length cr, .slice A ts.length c] 27))
      clear hst hsz hres h hN hl' hl hr hlim hk1 hdl hdL hdR
      have HDD := Lib.hid (And.intro (Tm.depth_le (.mk vl fl al)) (Tm.depth_le (.mk vr fr ar)))
      by_cases hmx : (Tm.mk vl fl al).depth < (Tm.mk vr fr ar).depth
      · have hmx1 : max (Tm.mk vl fl al).depth (Tm.mk vr fr ar).depth = (Tm.mk vr fr ar).depth := by omega
        rw [hmx1]
        have HMX0 := Lib.hid hmx1
        clear hmx1
        go_enter Tryz.func30, Tryz.ntmps30
        go_wp2_with fail
        go_region_held3 (fun w' => w'.cell? ⟨w.heap.size, 2, none⟩ = some (.int .i64 vl) ∧ w'.cell? ⟨w.heap.size, 3, none⟩ = some (.string fl) ∧ w'.cell? ⟨w.heap.size, 4, none⟩ = some (.slice Al al.length cl) ∧ w'.cell? ⟨w.heap.size, 5, none⟩ = some (.int .i64 vr) ∧ w'.cell? ⟨w.heap.size, 6, none⟩ = some (.string fr) ∧ w'.cell? ⟨w.heap.size, 7, none⟩ = some (.slice Ar ar.length cr)) (go_keep)
          (first
            | (go_at_call_of 56 (Value.agg #[.int .i64 vl, .string fl, .slice Al al.length cl]); refine (HTL.out _ (HL.out.stay (Stay.below (bel_box (by first | exact HQ1.out | exact HQ0.out))))).mono ?_; rintro e w1 ⟨rfl, hb1⟩; have HQ1 := Lib.hid (bel_step (by first | exact HQ1.out | exact HQ0.out) hb1); clear hb1; have z2 := box_cell HQ1.out 2 _ rfl; have z3 := box_cell HQ1.out 3 _ rfl; have z4 := box_cell HQ1.out 4 _ rfl; have z5 := box_cell HQ1.out 5 _ rfl; have z6 := box_cell HQ1.out 6 _ rfl; have z7 := box_cell HQ1.out 7 _ rfl; have z8 := box_cell HQ1.out 8 _ rfl)
            | (go_at_call_of 56 (Value.agg #[.int .i64 vr, .string fr, .slice Ar ar.length cr]); refine (HTR.out _ (HR.out.stay (Stay.below (bel_box (by first | exact HQ1.out | exact HQ0.out))))).mono ?_; rintro e w1 ⟨rfl, hb1⟩; have HQ1 := Lib.hid (bel_step (by first | exact HQ1.out | exact HQ0.out) hb1); clear hb1; have z2 := box_cell HQ1.out 2 _ rfl; have z3 := box_cell HQ1.out 3 _ rfl; have z4 := box_cell HQ1.out 4 _ rfl; have z5 := box_cell HQ1.out 5 _ rfl; have z6 := box_cell HQ1.out 6 _ rfl; have z7 := box_cell HQ1.out 7 _ rfl; have z8 := box_cell HQ1.out 8 _ rfl))
        all_goals
          clear z2 z3 z4 z5 z6 z7
          go_wp2_with fail
          go_loopw [3, 4] (fun va vi wl => ∃ i kk : Nat, i ≤ ts.length ∧ vi = .int .i64 i ∧ va = .int .i64 kk ∧ max (Tm.mk vr fr ar).depth (Fm.depths ts) = max kk (Fm.depths (ts.drop i)) ∧ Below (w.heap.size + 1) (w.alloc (.cells #[.int .i64 k, .string n, .int .i64 vl, .string fl, .slice Al al.length cl, .int .i64 vr, .string fr, .slice Ar ar.length cr, .slice A ts.length c] 27)) wl) (fun _ vi _ => ts.length - (intOf vi).toNat)
          case atStart => exact ⟨0, (Tm.mk vr fr ar).depth, by omega, rfl, by first | rfl | go_num, by rw [List.drop_zero]; try omega, HQ1.out⟩
          case round =>
            obtain ⟨i, kk, hi, rfl, rfl, hk, hb1⟩ := hrel
            have HK := Lib.hid hk
            have HB1 := Lib.hid hb1
            have HB : Hid (Below w.heap.size w wr) := Lib.hid (bel_box hb1)
            have hbs : w.heap.size + 1 ≤ wr.heap.size := bel_size hb1
            have r0 := box_cell hb1 8 _ rfl
            clear hk hb1
            by_cases hlt : i < ts.length
            · obtain ⟨b, o, hA, k', n', vl', fl', al', vr', fr', ar', us, Al', cl', Ar', cr', Ai, ci, hm, hstl, hstr, hsti, k0, k1, k2, k3, k4, k5, k6, k7, k8⟩ := HST.out.at i hlt
              subst hA
              have hbw := World.block_lt_of_cell? w _ k0
              have c0 := (HB.out.cell (p := ⟨b, o + i * 9, none⟩) hbw).trans k0
              have c1 := (HB.out.cell (p := ⟨b, o + i * 9 + 1, none⟩) hbw).trans k1
              have c2 := (HB.out.cell (p := ⟨b, o + i * 9 + 2, none⟩) hbw).trans k2
              have c3 := (HB.out.cell (p := ⟨b, o + i * 9 + 3, none⟩) hbw).trans k3
              have c4 := (HB.out.cell (p := ⟨b, o + i * 9 + 4, none⟩) hbw).trans k4
              have c5 := (HB.out.cell (p := ⟨b, o + i * 9 + 5, none⟩) hbw).trans k5
              have c6 := (HB.out.cell (p := ⟨b, o + i * 9 + 6, none⟩) hbw).trans k6
              have c7 := (HB.out.cell (p := ⟨b, o + i * 9 + 7, none⟩) hbw).trans k7
              have c8 := (HB.out.cell (p := ⟨b, o + i * 9 + 8, none⟩) hbw).trans k8
              have HSTI := Lib.hid hsti
              have HSTL := Lib.hid hstl
              have HSTR := Lib.hid hstr
              clear k0 k1 k2 k3 k4 k5 k6 k7 k8 hsti hstl hstr
              have hd := Fm.depths_drop ts i hlt
              rw [hm] at hd
              have hd' := Fm.depth_le (Fm.mk k' n' (.mk vl' fl' al') (.mk vr' fr' ar') us)
              have hIN : (Fm.mk k' n' (.mk vl' fl' al') (.mk vr' fr' ar') us).size ≤ N := by
                have h1 := Fm.sizes_le ts i hlt
                rw [hm] at h1
                have := HH.out
                omega
              have hle := HK.out
              have hnb := HNB.out
              have hh := HH.out
              have hkb : (kk : Int) ≤ 1152921504606846976 := by have hdl := Fm.depths_le ts; omega
              have hmb : ((Fm.mk k' n' (.mk vl' fl' al') (.mk vr' fr' ar') us).depth : Int) ≤ 1152921504606846976 := by omega
              have HD := Lib.hid hd
              have HI := Lib.hid (And.intro hIN hlt)
              clear hd hm hle hnb hh hIN hd'
              go_wp2_with fail
              refine (ih k' n' vl' fl' al' vr' fr' ar' us S _ Al' cl' Ar' cr' Ai ci HI.out.1 (by have := HNB.out; omega) (HSTL.out.stay (Stay.below (by exact HB.out))) (HSTR.out.stay (Stay.below (by exact HB.out))) (HSTI.out.stay (Stay.below (by exact HB.out)))).mono ?_
              rintro e w2 ⟨rfl, hb2⟩
              have HB2 := Lib.hid ((HB1.out).trans (hb2.mono (by first | omega | (simp; omega))))
              clear hb2
              generalize (Fm.mk k' n' (.mk vl' fl' al') (.mk vr' fr' ar') us).depth = q at *
              by_cases hmx : kk < q
              · have hmx1 : (max kk q : Nat) = q := by omega
                have HMX := Lib.hid hmx1
                clear hmx1
                go_wp2_with fail
                go_roundw
                case rel => exact ⟨i + 1, q, HI.out.2, by go_num, by go_num, by have := HK.out; rw [HD.out] at this; have := HMX.out; omega, HB2.out⟩
                case measure => have := HI.out.2; simp [intOf]; omega
              · have hmx1 : (max kk q : Nat) = kk := by omega
                have HMX := Lib.hid hmx1
                clear hmx1
                go_wp2_with fail
                go_roundw
                case rel => exact ⟨i + 1, kk, HI.out.2, by go_num, by go_num, by have := HK.out; rw [HD.out] at this; have := HMX.out; omega, HB2.out⟩
                case measure => have := HI.out.2; simp [intOf]; omega
            · obtain rfl : i = ts.length := by omega
              have hk' := HK.out
              rw [List.drop_length, Fm.depths] at hk'
              rw [Nat.max_zero] at hk'
              have hdl := Fm.depths_le ts
              have hh := HH.out
              have hnb := HNB.out
              have hkb : (kk : Int) ≤ 1152921504606846976 := by omega
              have HK' := Lib.hid hk'
              have d1 : decide (ts.length < ts.length) = false := by simp
              clear hk' hdl hh hnb
              go_wp2_with fail
              go_ret
              exact ⟨by rw [HK'.out]; show Ending.returned _ = _; congr 1, HB.out⟩
      · have hmx1 : max (Tm.mk vl fl al).depth (Tm.mk vr fr ar).depth = (Tm.mk vl fl al).depth := by omega
        rw [hmx1]
        have HMX0 := Lib.hid hmx1
        clear hmx1
        go_enter Tryz.func30, Tryz.ntmps30
        go_wp2_with fail
        go_region_held3 (fun w' => w'.cell? ⟨w.heap.size, 2, none⟩ = some (.int .i64 vl) ∧ w'.cell? ⟨w.heap.size, 3, none⟩ = some (.string fl) ∧ w'.cell? ⟨w.heap.size, 4, none⟩ = some (.slice Al al.length cl) ∧ w'.cell? ⟨w.heap.size, 5, none⟩ = some (.int .i64 vr) ∧ w'.cell? ⟨w.heap.size, 6, none⟩ = some (.string fr) ∧ w'.cell? ⟨w.heap.size, 7, none⟩ = some (.slice Ar ar.length cr)) (go_keep)
          (first
            | (go_at_call_of 56 (Value.agg #[.int .i64 vl, .string fl, .slice Al al.length cl]); refine (HTL.out _ (HL.out.stay (Stay.below (bel_box (by first | exact HQ1.out | exact HQ0.out))))).mono ?_; rintro e w1 ⟨rfl, hb1⟩; have HQ1 := Lib.hid (bel_step (by first | exact HQ1.out | exact HQ0.out) hb1); clear hb1; have z2 := box_cell HQ1.out 2 _ rfl; have z3 := box_cell HQ1.out 3 _ rfl; have z4 := box_cell HQ1.out 4 _ rfl; have z5 := box_cell HQ1.out 5 _ rfl; have z6 := box_cell HQ1.out 6 _ rfl; have z7 := box_cell HQ1.out 7 _ rfl; have z8 := box_cell HQ1.out 8 _ rfl)
            | (go_at_call_of 56 (Value.agg #[.int .i64 vr, .string fr, .slice Ar ar.length cr]); refine (HTR.out _ (HR.out.stay (Stay.below (bel_box (by first | exact HQ1.out | exact HQ0.out))))).mono ?_; rintro e w1 ⟨rfl, hb1⟩; have HQ1 := Lib.hid (bel_step (by first | exact HQ1.out | exact HQ0.out) hb1); clear hb1; have z2 := box_cell HQ1.out 2 _ rfl; have z3 := box_cell HQ1.out 3 _ rfl; have z4 := box_cell HQ1.out 4 _ rfl; have z5 := box_cell HQ1.out 5 _ rfl; have z6 := box_cell HQ1.out 6 _ rfl; have z7 := box_cell HQ1.out 7 _ rfl; have z8 := box_cell HQ1.out 8 _ rfl))
        all_goals
          clear z2 z3 z4 z5 z6 z7
          go_wp2_with fail
          go_loopw [3, 4] (fun va vi wl => ∃ i kk : Nat, i ≤ ts.length ∧ vi = .int .i64 i ∧ va = .int .i64 kk ∧ max (Tm.mk vl fl al).depth (Fm.depths ts) = max kk (Fm.depths (ts.drop i)) ∧ Below (w.heap.size + 1) (w.alloc (.cells #[.int .i64 k, .string n, .int .i64 vl, .string fl, .slice Al al.length cl, .int .i64 vr, .string fr, .slice Ar ar.length cr, .slice A ts.length c] 27)) wl) (fun _ vi _ => ts.length - (intOf vi).toNat)
          case atStart => exact ⟨0, (Tm.mk vl fl al).depth, by omega, rfl, by first | rfl | go_num, by rw [List.drop_zero]; try omega, HQ1.out⟩
          case round =>
            obtain ⟨i, kk, hi, rfl, rfl, hk, hb1⟩ := hrel
            have HK := Lib.hid hk
            have HB1 := Lib.hid hb1
            have HB : Hid (Below w.heap.size w wr) := Lib.hid (bel_box hb1)
            have hbs : w.heap.size + 1 ≤ wr.heap.size := bel_size hb1
            have r0 := box_cell hb1 8 _ rfl
            clear hk hb1
            by_cases hlt : i < ts.length
            · obtain ⟨b, o, hA, k', n', vl', fl', al', vr', fr', ar', us, Al', cl', Ar', cr', Ai, ci, hm, hstl, hstr, hsti, k0, k1, k2, k3, k4, k5, k6, k7, k8⟩ := HST.out.at i hlt
              subst hA
              have hbw := World.block_lt_of_cell? w _ k0
              have c0 := (HB.out.cell (p := ⟨b, o + i * 9, none⟩) hbw).trans k0
              have c1 := (HB.out.cell (p := ⟨b, o + i * 9 + 1, none⟩) hbw).trans k1
              have c2 := (HB.out.cell (p := ⟨b, o + i * 9 + 2, none⟩) hbw).trans k2
              have c3 := (HB.out.cell (p := ⟨b, o + i * 9 + 3, none⟩) hbw).trans k3
              have c4 := (HB.out.cell (p := ⟨b, o + i * 9 + 4, none⟩) hbw).trans k4
              have c5 := (HB.out.cell (p := ⟨b, o + i * 9 + 5, none⟩) hbw).trans k5
              have c6 := (HB.out.cell (p := ⟨b, o + i * 9 + 6, none⟩) hbw).trans k6
              have c7 := (HB.out.cell (p := ⟨b, o + i * 9 + 7, none⟩) hbw).trans k7
              have c8 := (HB.out.cell (p := ⟨b, o + i * 9 + 8, none⟩) hbw).trans k8
              have HSTI := Lib.hid hsti
              have HSTL := Lib.hid hstl
              have HSTR := Lib.hid hstr
              clear k0 k1 k2 k3 k4 k5 k6 k7 k8 hsti hstl hstr
              have hd := Fm.depths_drop ts i hlt
              rw [hm] at hd
              have hd' := Fm.depth_le (Fm.mk k' n' (.mk vl' fl' al') (.mk vr' fr' ar') us)
              have hIN : (Fm.mk k' n' (.mk vl' fl' al') (.mk vr' fr' ar') us).size ≤ N := by
                have h1 := Fm.sizes_le ts i hlt
                rw [hm] at h1
                have := HH.out
                omega
              have hle := HK.out
              have hnb := HNB.out
              have hh := HH.out
              have hkb : (kk : Int) ≤ 1152921504606846976 := by have hdl := Fm.depths_le ts; omega
              have hmb : ((Fm.mk k' n' (.mk vl' fl' al') (.mk vr' fr' ar') us).depth : Int) ≤ 1152921504606846976 := by omega
              have HD := Lib.hid hd
              have HI := Lib.hid (And.intro hIN hlt)
              clear hd hm hle hnb hh hIN hd'
              go_wp2_with fail
              refine (ih k' n' vl' fl' al' vr' fr' ar' us S _ Al' cl' Ar' cr' Ai ci HI.out.1 (by have := HNB.out; omega) (HSTL.out.stay (Stay.below (by exact HB.out))) (HSTR.out.stay (Stay.below (by exact HB.out))) (HSTI.out.stay (Stay.below (by exact HB.out)))).mono ?_
              rintro e w2 ⟨rfl, hb2⟩
              have HB2 := Lib.hid ((HB1.out).trans (hb2.mono (by first | omega | (simp; omega))))
              clear hb2
              generalize (Fm.mk k' n' (.mk vl' fl' al') (.mk vr' fr' ar') us).depth = q at *
              by_cases hmx : kk < q
              · have hmx1 : (max kk q : Nat) = q := by omega
                have HMX := Lib.hid hmx1
                clear hmx1
                go_wp2_with fail
                go_roundw
                case rel => exact ⟨i + 1, q, HI.out.2, by go_num, by go_num, by have := HK.out; rw [HD.out] at this; have := HMX.out; omega, HB2.out⟩
                case measure => have := HI.out.2; simp [intOf]; omega
              · have hmx1 : (max kk q : Nat) = kk := by omega
                have HMX := Lib.hid hmx1
                clear hmx1
                go_wp2_with fail
                go_roundw
                case rel => exact ⟨i + 1, kk, HI.out.2, by go_num, by go_num, by have := HK.out; rw [HD.out] at this; have := HMX.out; omega, HB2.out⟩
                case measure => have := HI.out.2; simp [intOf]; omega
            · obtain rfl : i = ts.length := by omega
              have hk' := HK.out
              rw [List.drop_length, Fm.depths] at hk'
              rw [Nat.max_zero] at hk'
              have hdl := Fm.depths_le ts
              have hh := HH.out
              have hnb := HNB.out
              have hkb : (kk : Int) ≤ 1152921504606846976 := by omega
              have HK' := Lib.hid hk'
              have d1 : decide (ts.length < ts.length) = false := by simp
              clear hk' hdl hh hnb
              go_wp2_with fail
              go_ret
              exact ⟨by rw [HK'.out]; show Ending.returned _ = _; congr 1, HB.out⟩
    · have hsz : (Fm.mk k n (.mk vl fl al) (.mk vr fr ar) ts).size = 1 + Fm.sizes ts := by rw [Fm.size, if_neg hk1]
      have hres : (Fm.mk k n (.mk vl fl al) (.mk vr fr ar) ts).depth = max 0 (Fm.depths ts) + 1 := by rw [Fm.depth, if_neg hk1]
      have d0 : (k == 1) = false := by simpa using hk1
      have hlen : ts.length ≤ 1152921504606846976 := by omega
      rw [hres]
      rw [hsz] at h
      have HH := Lib.hid h
      clear hst hsz hres h hN hl' hl hr hlim hk1 hdl
      go_enter Tryz.func30, Tryz.ntmps30
      go_wp2_with fail
      go_loopw [3, 4] (fun va vi wl => ∃ i kk : Nat, i ≤ ts.length ∧ vi = .int .i64 i ∧ va = .int .i64 kk ∧ max 0 (Fm.depths ts) = max kk (Fm.depths (ts.drop i)) ∧ Below (w.heap.size + 1) (w.alloc (.cells #[.int .i64 k, .string n, .int .i64 vl, .string fl, .slice Al al.length cl, .int .i64 vr, .string fr, .slice Ar ar.length cr, .slice A ts.length c] 27)) wl) (fun _ vi _ => ts.length - (intOf vi).toNat)
      case atStart => exact ⟨0, 0, by omega, rfl, by first | rfl | go_num, by rw [List.drop_zero], Below.refl _ _⟩
      case round =>
        obtain ⟨i, kk, hi, rfl, rfl, hk, hb1⟩ := hrel
        have HK := Lib.hid hk
        have HB1 := Lib.hid hb1
        have HB : Hid (Below w.heap.size w wr) := Lib.hid (bel_box hb1)
        have hbs : w.heap.size + 1 ≤ wr.heap.size := bel_size hb1
        have r0 := box_cell hb1 8 _ rfl
        clear hk hb1
        by_cases hlt : i < ts.length
        · obtain ⟨b, o, hA, k', n', vl', fl', al', vr', fr', ar', us, Al', cl', Ar', cr', Ai, ci, hm, hstl, hstr, hsti, k0, k1, k2, k3, k4, k5, k6, k7, k8⟩ := HST.out.at i hlt
          subst hA
          have hbw := World.block_lt_of_cell? w _ k0
          have c0 := (HB.out.cell (p := ⟨b, o + i * 9, none⟩) hbw).trans k0
          have c1 := (HB.out.cell (p := ⟨b, o + i * 9 + 1, none⟩) hbw).trans k1
          have c2 := (HB.out.cell (p := ⟨b, o + i * 9 + 2, none⟩) hbw).trans k2
          have c3 := (HB.out.cell (p := ⟨b, o + i * 9 + 3, none⟩) hbw).trans k3
          have c4 := (HB.out.cell (p := ⟨b, o + i * 9 + 4, none⟩) hbw).trans k4
          have c5 := (HB.out.cell (p := ⟨b, o + i * 9 + 5, none⟩) hbw).trans k5
          have c6 := (HB.out.cell (p := ⟨b, o + i * 9 + 6, none⟩) hbw).trans k6
          have c7 := (HB.out.cell (p := ⟨b, o + i * 9 + 7, none⟩) hbw).trans k7
          have c8 := (HB.out.cell (p := ⟨b, o + i * 9 + 8, none⟩) hbw).trans k8
          have HSTI := Lib.hid hsti
          have HSTL := Lib.hid hstl
          have HSTR := Lib.hid hstr
          clear k0 k1 k2 k3 k4 k5 k6 k7 k8 hsti hstl hstr
          have hd := Fm.depths_drop ts i hlt
          rw [hm] at hd
          have hd' := Fm.depth_le (Fm.mk k' n' (.mk vl' fl' al') (.mk vr' fr' ar') us)
          have hIN : (Fm.mk k' n' (.mk vl' fl' al') (.mk vr' fr' ar') us).size ≤ N := by
            have h1 := Fm.sizes_le ts i hlt
            rw [hm] at h1
            have := HH.out
            omega
          have hle := HK.out
          have hnb := HNB.out
          have hh := HH.out
          have hkb : (kk : Int) ≤ 1152921504606846976 := by have hdl := Fm.depths_le ts; omega
          have hmb : ((Fm.mk k' n' (.mk vl' fl' al') (.mk vr' fr' ar') us).depth : Int) ≤ 1152921504606846976 := by omega
          have HD := Lib.hid hd
          have HI := Lib.hid (And.intro hIN hlt)
          clear hd hm hle hnb hh hIN hd'
          go_wp2_with fail
          refine (ih k' n' vl' fl' al' vr' fr' ar' us S _ Al' cl' Ar' cr' Ai ci HI.out.1 (by have := HNB.out; omega) (HSTL.out.stay (Stay.below (by exact HB.out))) (HSTR.out.stay (Stay.below (by exact HB.out))) (HSTI.out.stay (Stay.below (by exact HB.out)))).mono ?_
          rintro e w2 ⟨rfl, hb2⟩
          have HB2 := Lib.hid ((HB1.out).trans (hb2.mono (by first | omega | (simp; omega))))
          clear hb2
          generalize (Fm.mk k' n' (.mk vl' fl' al') (.mk vr' fr' ar') us).depth = q at *
          by_cases hmx : kk < q
          · have hmx1 : (max kk q : Nat) = q := by omega
            have HMX := Lib.hid hmx1
            clear hmx1
            go_wp2_with fail
            go_roundw
            case rel => exact ⟨i + 1, q, HI.out.2, by go_num, by go_num, by have := HK.out; rw [HD.out] at this; have := HMX.out; omega, HB2.out⟩
            case measure => have := HI.out.2; simp [intOf]; omega
          · have hmx1 : (max kk q : Nat) = kk := by omega
            have HMX := Lib.hid hmx1
            clear hmx1
            go_wp2_with fail
            go_roundw
            case rel => exact ⟨i + 1, kk, HI.out.2, by go_num, by go_num, by have := HK.out; rw [HD.out] at this; have := HMX.out; omega, HB2.out⟩
            case measure => have := HI.out.2; simp [intOf]; omega
        · obtain rfl : i = ts.length := by omega
          have hk' := HK.out
          rw [List.drop_length, Fm.depths] at hk'
          rw [Nat.max_zero] at hk'
          have hdl := Fm.depths_le ts
          have hh := HH.out
          have hnb := HNB.out
          have hkb : (kk : Int) ≤ 1152921504606846976 := by omega
          have HK' := Lib.hid hk'
          have d1 : decide (ts.length < ts.length) = false := by simp
          clear hk' hdl hh hnb
          go_wp2_with fail
          go_ret
          exact ⟨by rw [HK'.out]; show Ending.returned _ = _; congr 1, HB.out⟩
end Go.Proofs.YtndjjnnljihmnaaGreat
