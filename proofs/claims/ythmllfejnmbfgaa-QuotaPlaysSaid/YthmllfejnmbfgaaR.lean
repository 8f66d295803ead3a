/- What holds between two calls of the script of the law QuotaPlays: plain lemmas over memory. -/
import Derived.Test.YthmllfejnmbfgaaQ
import Derived.Deep.DeepCutAuto
import Derived.Deep.CutBlock
namespace Go.Proofs.Ythmllfejnmbfgaa
open Go.RowKit
set_option linter.unusedVariables false
set_option linter.unusedSimpArgs false

theorem qnew_bad {w : World} (a : Option Addr) (c n : Nat) (h : n < 1 ∨ 16 < n) (hn : n ≤ 140737488351232) :
    Calls Try.prog 14 #[.slice a n c] w fun e w' => e = .returned (.tuple #[.pointer none, .int .i64 1]) ∧ w = w' := by
  rcases h with h | h
  · have d1 : decide (n < 1) = true := by simpa using h
    go_enter Try.func14, Try.ntmps14
    go_wp2
    go_ret2
    exact ⟨rfl, rfl⟩
  · have d1 : decide ((n : Int) < 1) = false := by simp; omega
    have d2 : decide ((16 : Int) < n) = true := by simp; omega
    go_enter Try.func14, Try.ntmps14
    go_wp2
    go_ret2
    exact ⟨rfl, rfl⟩

/-- What holds between two calls of the script. -/
structure Pl (B : Nat) (w : World) (zs : List Int) (a b : Nat) (mv : Value) (wr : World) (ms : List Int) (cs : List Cnt) (g gl gu gp mg mcap : Nat) (mrest : List Value) : Prop where
  acct : Acct wr a g cs
  rac : RAC wr b gl gu gp cs
  mark : mv = .slice (some ⟨mg, 0, none⟩) ms.length mcap
  mblk : Blk wr mg 3 (Nums ms ++ mrest)
  mne : mg ≠ gu ∧ mg ≠ gp
  low : B ≤ a ∧ B ≤ b ∧ B ≤ g ∧ B ≤ gl ∧ B ≤ gu ∧ B ≤ gp ∧ B ≤ mg
  fair : Fair cs
  lim : cs.map (·.lim) = zs
  mlen : ms.length ≤ 16
  bel : Below B w wr
def PlE (B : Nat) (w : World) (zs : List Int) (a b : Nat) (mv : Value) (wr : World) : Prop := ∃ ms cs g gl gu gp mg mcap mrest, Pl B w zs a b mv wr ms cs g gl gu gp mg mcap mrest

/-- A call of the script: its kind, its numbers, its list. -/
structure OpX where
  kind : Int
  k : Int
  n : Int
  la : Option Addr
  lc : Nat
  ls : List Int
structure OpAt (w : World) (b off : Nat) (o : OpX) : Prop where
  c0 : w.cell? ⟨b, off, none⟩ = some (.int .i64 o.kind)
  c1 : w.cell? ⟨b, off + 1, none⟩ = some (.int .i64 o.k)
  c2 : w.cell? ⟨b, off + 2, none⟩ = some (.int .i64 o.n)
  c3 : w.cell? ⟨b, off + 3, none⟩ = some (.slice o.la o.ls.length o.lc)
  ln : o.ls.length ≤ 9223372036854775807
  lz : ICells w o.la o.ls
  nn : o.n ≤ 9223372036854775807

theorem blk_ne {w : World} {x y : Nat} {T T' : TypeId} {vs vs' : List Value} (p : Blk w x T vs) (q : Blk w y T' vs') (hne : T ≠ T') : x ≠ y := fun e => by subst e; exact hne (blk_type p q)
theorem icells_bel {w wr : World} {a : Option Addr} {xs : List Int} (h : ICells w a xs) (hb : Below w.heap.size w wr) : ICells wr a xs := fun hp => by
  obtain ⟨lb, lo, rfl, hl, hc⟩ := h hp
  exact ⟨lb, lo, rfl, Nat.lt_of_lt_of_le hl hb.size, fun j hj => (hb.cell (p := ⟨lb, lo + j, none⟩) hl).trans (hc j hj)⟩
theorem icells_blk {w : World} {g : Nat} {xs : List Int} {rest : List Value} (h : Blk w g 3 (Nums xs ++ rest)) : ICells w (some ⟨g, 0, none⟩) xs := fun hp =>
  ⟨g, 0, rfl, h.lt, fun j hj => by rw [Nat.zero_add, h.cell]; exact nums_at rest hj⟩
theorem OpAt.bel {w wr : World} {b off : Nat} {o : OpX} (h : OpAt w b off o) (hb : Below w.heap.size w wr) (hl : b < w.heap.size) : OpAt wr b off o :=
  ⟨(hb.cell (p := ⟨b, _, none⟩) hl).trans h.c0, (hb.cell (p := ⟨b, _, none⟩) hl).trans h.c1, (hb.cell (p := ⟨b, _, none⟩) hl).trans h.c2, (hb.cell (p := ⟨b, _, none⟩) hl).trans h.c3, h.ln, icells_bel h.lz hb, h.nn⟩
theorem back_any {w : World} {a g : Nat} {cs : List Cnt} (av : Option Addr) (mc : Nat) (ms : List Int) (ha : Acct w a g cs) (h1 : 1 ≤ cs.length) (hm : ms.length ≤ 9223372036854775807) (hz : ICells w av ms) :
    Calls Try.prog 24 #[.pointer (some ⟨a, 0, none⟩), .slice av ms.length mc] w (BackPost a g cs ms w) := by
  by_cases h : ms.length = cs.length
  · obtain ⟨lb, lo, rfl, hl, hc⟩ := hz (by omega)
    rw [h]
    exact back_same lb lo mc ms ha h1 h hl hc
  · exact back_len av mc ms ha hm h
theorem rback_any {w : World} {b gl gu gp : Nat} {cs : List Cnt} (av : Option Addr) (mc : Nat) (ms : List Int) (ha : RAC w b gl gu gp cs) (h1 : 1 ≤ cs.length) (hm : ms.length ≤ 9223372036854775807) (hz : ICells w av ms) :
    Calls Try.prog 25 #[.pointer (some ⟨b, 0, none⟩), .slice av ms.length mc] w (RBackPost b gl gu gp cs ms w) := by
  by_cases h : ms.length = cs.length
  · obtain ⟨lb, lo, rfl, hl, hc⟩ := hz (by omega)
    rw [h]
    exact rback_same lb lo mc ms ha h1 h hl hc
  · exact rback_len av mc ms ha hm h
theorem quiet_eq {P : Program} {f : FuncId} {args : Array Value} {w : World} {n : Nat} {v : Value} (h : Calls P f args (w.drewN n) fun e w' => e = .returned v ∧ w.drewN n = w') :
    Calls P f args (w.drewN n) fun e w'' => e = .returned v ∧ ∃ m, w'' = w.drewN m := h.mono fun _ _ ⟨he, hm⟩ => ⟨he, n, hm.symm⟩

section
variable {B : Nat} {w wr : World} {zs : List Int} {a b : Nat} {mv : Value} {ms : List Int} {cs : List Cnt} {g gl gu gp mg mcap : Nat} {mrest : List Value}
theorem Pl.size (P : Pl B w zs a b mv wr ms cs g gl gu gp mg mcap mrest) : B ≤ wr.heap.size := by
  obtain ⟨_, _, _, _, _, _, h, _⟩ := P.acct
  have := h.lt; have := P.low; omega
/-- The blocks of the two accounts and of the mark are different ones. -/
theorem Pl.ne (P : Pl B w zs a b mv wr ms cs g gl gu gp mg mcap mrest) : (b ≠ a ∧ b ≠ g ∧ gl ≠ a ∧ gl ≠ g ∧ gu ≠ a ∧ gu ≠ g ∧ gp ≠ a ∧ gp ≠ g ∧ mg ≠ a ∧ mg ≠ g ∧ mg ≠ b) ∧ (a < wr.heap.size ∧ b < wr.heap.size ∧ g < wr.heap.size ∧ gl < wr.heap.size ∧ gu < wr.heap.size ∧ gp < wr.heap.size ∧ mg < wr.heap.size) ∧ cs.length = zs.length ∧ (b ≠ gl ∧ b ≠ gu ∧ b ≠ gp) := by
  obtain ⟨_, _, _, _, _, _, hA, hG⟩ := P.acct
  obtain ⟨_, _, _, _, _, _, h0, h1, h2, h3, _⟩ := P.rac
  have m := P.mblk
  have e1 := blk_ne h0 hA (by decide)
  have e2 := blk_ne h0 hG (by decide)
  have e3 := blk_ne h1 hA (by decide)
  have e4 := blk_ne h1 hG (by decide)
  have e5 := blk_ne h2 hA (by decide)
  have e6 := blk_ne h2 hG (by decide)
  have e7 := blk_ne h3 hA (by decide)
  have e8 := blk_ne h3 hG (by decide)
  have e9 := blk_ne m hA (by decide)
  have e10 := blk_ne m hG (by decide)
  have e11 := blk_ne m h0 (by decide)
  have e12 := blk_ne h0 h1 (by decide)
  have e13 := blk_ne h0 h2 (by decide)
  have e14 := blk_ne h0 h3 (by decide)
  refine ⟨⟨e1, e2, e3, e4, e5, e6, e7, e8, e9, e10, e11⟩, ⟨hA.lt, h0.lt, hG.lt, h1.lt, h2.lt, h3.lt, m.lt⟩, ?_, e12, e13, e14⟩
  rw [← P.lim]; simp
theorem Pl.fr (P : Pl B w zs a b mv wr ms cs g gl gu gp mg mcap mrest) {w' : World} (hf : Fr (fun _ => False) wr w') : Pl B w zs a b mv w' ms cs g gl gu gp mg mcap mrest :=
  ⟨P.acct.fr hf id id, P.rac.fr hf id id id id, P.mark, P.mblk.fr hf id, P.mne, P.low, P.fair, P.lim, P.mlen, P.bel.trans (hf.below P.size fun _ h => h.elim)⟩
/-- What the first account's call leaves of the second account and of the mark. -/
theorem Pl.half (P : Pl B w zs a b mv wr ms cs g gl gu gp mg mcap mrest) {w' : World} (hf : Fr (fun i => i = a ∨ i = g) wr w') : RAC w' b gl gu gp cs ∧ Blk w' mg 3 (Nums ms ++ mrest) ∧ Below B w w' ∧ wr.heap.size ≤ w'.heap.size := by
  obtain ⟨⟨n1, n2, n3, n4, n5, n6, n7, n8, n9, n10, n11⟩, _⟩ := P.ne
  exact ⟨P.rac.fr hf (by omega) (by omega) (by omega) (by omega), P.mblk.fr hf (by omega), P.bel.trans (hf.below P.size fun i h => by have := P.low; omega), hf.size⟩
theorem Pl.full (P : Pl B w zs a b mv wr ms cs g gl gu gp mg mcap mrest) {w' w'' : World} {cs' : List Cnt} {g' gu' : Nat} (hf : Fr (fun i => i = a ∨ i = g) wr w') (ha : Acct w' a g' cs') (hg : g' = g ∨ wr.heap.size ≤ g')
    (hf2 : Fr (fun i => i = b ∨ i = gu ∨ i = gp) w' w'') (hr : RAC w'' b gl gu' gp cs') (hu : gu' = gu ∨ w'.heap.size ≤ gu') (hfair : Fair cs') (hlim : cs'.map (·.lim) = cs.map (·.lim)) :
    Pl B w zs a b mv w'' ms cs' g' gl gu' gp mg mcap mrest := by
  obtain ⟨⟨n1, n2, n3, n4, n5, n6, n7, n8, n9, n10, n11⟩, ⟨l1, l2, l3, l4, l5, l6, l7⟩, _⟩ := P.ne
  obtain ⟨h1, h2, h3, h4⟩ := P.half hf
  have hl := P.low
  have hm := P.mne
  have hs := P.size
  have k1 : ¬ (a = b ∨ a = gu ∨ a = gp) := fun h => h.elim (fun e => n1 e.symm) (fun h => h.elim (fun e => n5 e.symm) (fun e => n7 e.symm))
  have k2 : ¬ (g' = b ∨ g' = gu ∨ g' = gp) := by
    rcases hg with rfl | hg
    · exact fun h => h.elim (fun e => n2 e.symm) (fun h => h.elim (fun e => n6 e.symm) (fun e => n8 e.symm))
    · clear n1 n2 n3 n4 n5 n6 n7 n8 n9 n10 n11 hu hm k1; omega
  have k3 : ¬ (mg = b ∨ mg = gu ∨ mg = gp) := fun h => h.elim (fun e => n11 e) (fun h => h.elim (fun e => hm.1 e) (fun e => hm.2 e))
  have k4 : mg ≠ gu' ∧ mg ≠ gp := by
    refine ⟨?_, hm.2⟩
    rcases hu with rfl | hu
    · exact hm.1
    · clear n1 n2 n3 n4 n5 n6 n7 n8 n9 n10 n11 hg hm k1 k2 k3; omega
  clear n1 n2 n3 n4 n5 n6 n7 n8 n9 n10 n11
  exact ⟨ha.fr hf2 k1 k2, hr, P.mark, h2.fr hf2 k3, k4, by clear k1 k2 k3 k4 hm; omega, hfair, hlim.trans P.lim, P.mlen, h3.trans (hf2.below (by clear k1 k2 k3 k4 hm; omega) fun i h => by clear k1 k2 k3 k4 hm; omega)⟩
end
theorem fr_or1 {w w' : World} {a g : Nat} (h : Fr (· = g) w w') : Fr (fun i => i = a ∨ i = g) w w' := h.mono fun i _ h => .inr h
theorem fr_or2 {w w' : World} {a g : Nat} (h : Fr (· = a) w w') : Fr (fun i => i = a ∨ i = g) w w' := h.mono fun i _ h => .inl h
theorem fr_or0 {w w' : World} {S : Nat → Prop} (h : Fr (fun _ => False) w w') : Fr S w w' := h.mono fun i _ h => h.elim
theorem fr_or3 {w w' : World} {b gu gp : Nat} (h : Fr (fun i => i = gu ∨ i = gp) w w') : Fr (fun i => i = b ∨ i = gu ∨ i = gp) w w' := h.mono fun i _ h => .inr h
theorem fr_or4 {w w' : World} {b gu gp : Nat} (h : Fr (· = b) w w') : Fr (fun i => i = b ∨ i = gu ∨ i = gp) w w' := h.mono fun i _ h => .inl h
theorem updC_fair {cs : List Cnt} {ms : List Int} (h : Fair cs) (ho : backOK cs ms) : Fair (updC cs ms cs.length) := by
  intro c hc
  obtain ⟨i, hi, rfl⟩ := List.mem_iff_getElem.1 hc
  rw [updC_length] at hi
  have h1 := fair_at h i hi
  have h2 := ho.2 i hi
  rw [getD_at hi] at h2
  simp only [updC, List.getElem_mapIdx, if_pos hi]
  exact ⟨h2.1, by omega, h1.2.2.1, h1.2.2.2.1, h1.2.2.2.2⟩

/-- The two answers of one call, and what holds behind them. -/
def SameEnd (B : Nat) (w : World) (zs : List Int) (a b : Nat) (mv x y : Value) (wr : World) : Prop := ∃ r : Int, x = .int .i64 r ∧ y = .int .i64 r ∧ PlE B w zs a b mv wr
end Go.Proofs.Ythmllfejnmbfgaa
