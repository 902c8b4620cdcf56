import Derived.Test.YtbpmmabdjabfcaaTableRows
import Derived.Deep.RegionHeld3
import Derived.Handy
import Derived.WalkSpells
/- Package table: Parse; what it answers, in plain words. -/
namespace Go.Proofs.Ytbpmmabdjabfcaa.Table
open Go.RowKit Go.Proofs.YtbpmmabdjabfcaaW.PrintWords Go.Proofs.YtbpmmabdjabfcaaW.PrintLast Go.Proofs.YtbpmmabdjabfcaaW.PrintMore Go.Proofs.Ytbpmmabdjabfcaa.Box Go.Proofs.Ytbpmmabdjabfcaa.PT
/-- Six cells of a block, put one by one. -/
theorem put6 {W : World} {g T : Nat} {u0 u1 u2 u3 u4 u5 : Value} (hg : W.heap[g]? = some (.cells #[u0, u1, u2, u3, u4, u5] T (0, 0))) (v0 v1 v2 v3 v4 v5 : Value) :
    ((((((W.setCell ⟨g, 0, none⟩ v0).setCell ⟨g, 1, none⟩ v1).setCell ⟨g, 2, none⟩ v2).setCell ⟨g, 3, none⟩ v3).setCell ⟨g, 4, none⟩ v4).setCell ⟨g, 5, none⟩ v5).heap[g]? = some (.cells #[v0, v1, v2, v3, v4, v5] T (0, 0)) :=
  (blk_set (blk_set (blk_set (blk_set (blk_set (blk_set hg 0 v0) 1 v1) 2 v2) 3 v3) 4 v4) 5 v5).trans rfl
theorem below6 {w W : World} {g : Nat} (hb : Below w.heap.size w W) (hg : w.heap.size ≤ g) (v0 v1 v2 v3 v4 v5 : Value) : Below w.heap.size w ((((((W.setCell ⟨g, 0, none⟩ v0).setCell ⟨g, 1, none⟩ v1).setCell ⟨g, 2, none⟩ v2).setCell ⟨g, 3, none⟩ v3).setCell ⟨g, 4, none⟩ v4).setCell ⟨g, 5, none⟩ v5) :=
  below_set (below_set (below_set (below_set (below_set (below_set hb hg) hg) hg) hg) hg) hg
/-- The greater of two. -/
def mx (x y : Nat) : Nat := if x < y then y else x
theorem max2_nat (k k' : IntKind) (x y : Nat) : Builtin.max2 (.int k (x : Int)) (.int k' (y : Int)) = pure (.int k (mx x y : Nat)) := by
  rw [max2_int, mx]
  by_cases h : x < y
  · rw [if_pos h, if_pos (by omega)]
  · rw [if_neg h, if_neg (by omega)]
theorem mx_lt (x y z : Nat) : z < mx x y ↔ z < x ∨ z < y := by unfold mx; split <;> omega
attribute [local go_sem] max2_nat max_four
/-- A configuration, in plain words. -/
structure Cfg where
  ps : List S64
  xs : List S68
  l0 : Int
  ws0 : List S72
  l1 : Int
  ws1 : List S72
def zcfg : Cfg := ⟨[], [], 0, [], 0, []⟩
/-- The cells of a configuration that lies in w. -/
def IsCfg (w : World) (c : Cfg) (cs : Array Value) : Prop := ∃ A0 c0 A1 c1 A2 c2 A3 c3, cs = #[.slice A0 c.ps.length c0, .slice A1 c.xs.length c1, .int .i64 c.l0, .slice A2 c.ws0.length c2, .int .i64 c.l1, .slice A3 c.ws1.length c3] ∧
  (c.ps.length ≤ c0 ∧ c.xs.length ≤ c1 ∧ c.ws0.length ≤ c2 ∧ c.ws1.length ≤ c3) ∧ Kd.C k64 w A0 c.ps.length c.ps ∧ Kd.C k68 w A1 c.xs.length c.xs ∧ Kd.C k72 w A2 c.ws0.length c.ws0 ∧ Kd.C k72 w A3 c.ws1.length c.ws1
theorem isCfg_below {w w1 : World} {c : Cfg} {cs : Array Value} (h : IsCfg w c cs) (hb : Below w.heap.size w w1) : IsCfg w1 c cs := by
  obtain ⟨A0, c0, A1, c1, A2, c2, A3, c3, e, hl, h0, h1, h2, h3⟩ := h
  exact ⟨A0, c0, A1, c1, A2, c2, A3, c3, e, hl, Kd.C_below h0 hb, Kd.C_below h1 hb, Kd.C_below h2 hb, Kd.C_below h3 hb⟩
theorem isCfg_zero (w : World) : IsCfg w zcfg #[.slice none 0 0, .slice none 0 0, .int .i64 0, .slice none 0 0, .int .i64 0, .slice none 0 0] :=
  ⟨none, 0, none, 0, none, 0, none, 0, rfl, ⟨Nat.le_refl _, Nat.le_refl _, Nat.le_refl _, Nat.le_refl _⟩, Kd.C_nil _ _, Kd.C_nil _ _, Kd.C_nil _ _, Kd.C_nil _ _⟩
/-- The same of a configuration whose rows are of the call's own, from base on. -/
def IsOwn (w : World) (base : Nat) (c : Cfg) (cs : Array Value) : Prop := ∃ v0 v1 v2 v3, cs = #[v0, v1, .int .i64 c.l0, v2, .int .i64 c.l1, v3] ∧
  Kd.R k64 64 w base (fun j => base ≤ j) v0 c.ps ∧ Kd.R k68 68 w base (fun j => base ≤ j) v1 c.xs ∧ Kd.R k72 72 w base (fun j => base ≤ j) v2 c.ws0 ∧ Kd.R k72 72 w base (fun j => base ≤ j) v3 c.ws1
theorem IsOwn.cfg {w : World} {base : Nat} {c : Cfg} {cs : Array Value} (h : IsOwn w base c cs) : IsCfg w c cs := by
  obtain ⟨v0, v1, v2, v3, rfl, h0, h1, h2, h3⟩ := h
  obtain ⟨A0, c0, rfl, l0, r0⟩ := Kd.R_reads h0
  obtain ⟨A1, c1, rfl, l1, r1⟩ := Kd.R_reads h1
  obtain ⟨A2, c2, rfl, l2, r2⟩ := Kd.R_reads h2
  obtain ⟨A3, c3, rfl, l3, r3⟩ := Kd.R_reads h3
  exact ⟨A0, c0, A1, c1, A2, c2, A3, c3, rfl, ⟨l0, l1, l2, l3⟩, r0, r1, r2, r3⟩
theorem isOwn_zero (w : World) (base : Nat) : IsOwn w base zcfg #[.slice none 0 0, .slice none 0 0, .int .i64 0, .slice none 0 0, .int .i64 0, .slice none 0 0] :=
  ⟨_, _, _, _, rfl, Kd.R_nil _ _ _ _ _, Kd.R_nil _ _ _ _ _, Kd.R_nil _ _ _ _ _, Kd.R_nil _ _ _ _ _⟩
theorem IsOwn.step {w w1 : World} {base : Nat} {c : Cfg} {cs : Array Value} (h : IsOwn w base c cs) (hm : ∀ k, base ≤ k → k < w.heap.size → w1.heap[k]? = w.heap[k]?) : IsOwn w1 base c cs := by
  obtain ⟨v0, v1, v2, v3, e, h0, h1, h2, h3⟩ := h
  exact ⟨v0, v1, v2, v3, e, Kd.R_step h0 hm, Kd.R_step h1 hm, Kd.R_step h2 hm, Kd.R_step h3 hm⟩
theorem IsOwn.lower {w : World} {base base' : Nat} {c : Cfg} {cs : Array Value} (h : IsOwn w base c cs) (hb : base' ≤ base) : IsOwn w base' c cs := by
  obtain ⟨v0, v1, v2, v3, e, h0, h1, h2, h3⟩ := h
  exact ⟨v0, v1, v2, v3, e, Kd.R_mono (Kd.R_lower h0 hb) (fun j hj => Nat.le_trans hb hj), Kd.R_mono (Kd.R_lower h1 hb) (fun j hj => Nat.le_trans hb hj), Kd.R_mono (Kd.R_lower h2 hb) (fun j hj => Nat.le_trans hb hj), Kd.R_mono (Kd.R_lower h3 hb) (fun j hj => Nat.le_trans hb hj)⟩
/-- The number at place j. -/
def hdN (ws : List Int) (j : Nat) : Nat := (ws.getD j 0).toNat
def cntW (p c a b : Nat) : Nat := 6 + 2 * p + 7 * c + 3 * a + 3 * b
def parseC (ws : List Int) : Cfg := ⟨parts (ws.drop 6) (hdN ws 0), chans ((ws.drop 6).drop (2 * hdN ws 0)) (hdN ws 1), ws.getD 2 0, windows ((ws.drop 6).drop (2 * hdN ws 0 + 7 * hdN ws 1)) (hdN ws 3), ws.getD 4 0, windows ((ws.drop 6).drop (2 * hdN ws 0 + 7 * hdN ws 1 + 3 * hdN ws 3)) (hdN ws 5)⟩
def bigW (ws : List Int) : Prop := 64 < hdN ws 0 ∨ 64 < hdN ws 1 ∨ 64 < hdN ws 3 ∨ 64 < hdN ws 5
instance (ws : List Int) : Decidable (bigW ws) := by unfold bigW; infer_instance
def parseE (ws : List Int) : Int := if ws.length < 6 then 8 else if bigW ws then 7 else if ws.length < cntW (hdN ws 0) (hdN ws 1) (hdN ws 3) (hdN ws 5) then 8 else if cntW (hdN ws 0) (hdN ws 1) (hdN ws 3) (hdN ws 5) < ws.length then 9 else 0
def parseR (ws : List Int) : Cfg := if parseE ws = 0 then parseC ws else zcfg
theorem done_reads (g : Nat) (A : Option Addr) (n c : Nat) (s : Bool) (w : World) (hc0 : w.cell? ⟨g, 0, none⟩ = some (.slice A n c)) (hc1 : w.cell? ⟨g, 1, none⟩ = some (.bool s)) :
    Calls Try.prog 37 #[.pointer (some ⟨g, 0, none⟩)] w fun e w' => e = .returned (.bool (decide (n = 0) && !s)) ∧ w = w' := by
  by_cases hn : n = 0
  · subst hn
    go_enter Try.func37, Try.ntmps37
    go_wp2
    go_ret
    exact ⟨by simp, rfl⟩
  · have hb : ((n : Int) == 0) = false := by simp; omega
    have HN := Aside0.mk hn
    clear hn
    go_enter Try.func37, Try.ntmps37
    go_wp2
    go_ret
    exact ⟨by have := HN.out; simp [this], rfl⟩
/-- What stands all through Parse behind its head: the head's numbers, the result's cells, the box. -/
structure PI (w W : World) (p q a b : Nat) (l0 l1 : Int) (ws : List Int) (s : Bool) : Prop where
  head : W.heap[w.heap.size + 2]? = some (.cells #[.int .i64 p, .int .i64 q, .int .i64 l0, .int .i64 a, .int .i64 l1, .int .i64 b] 60 (0, 0))
  res : W.heap[w.heap.size]? = some (.cells #[.slice none 0 0, .slice none 0 0, .int .i64 0, .slice none 0 0, .int .i64 0, .slice none 0 0] 31 (0, 0))
  box : IsBox w W (w.heap.size + 1) 59 [] ws s
  bel : Below w.heap.size w W
theorem PI.below {w W W' : World} {p q a b : Nat} {l0 l1 : Int} {ws : List Int} {s : Bool} (h : PI w W p q a b l0 l1 ws s) (hb : Below W.heap.size W W') : PI w W' p q a b l0 l1 ws s :=
  ⟨blk_below h.head hb, blk_below h.res hb, h.box.below hb, h.bel.trans (hb.mono h.bel.size)⟩
theorem PI.alloc {w W : World} {p q a b : Nat} {l0 l1 : Int} {ws : List Int} {s : Bool} (h : PI w W p q a b l0 l1 ws s) (o : Obj) : PI w (W.alloc o) p q a b l0 l1 ws s := h.below (below_alloc (Below.refl _ _) _)
theorem PI.drew {w W : World} {p q a b : Nat} {l0 l1 : Int} {ws : List Int} {s : Bool} (h : PI w W p q a b l0 l1 ws s) : PI w W.drew p q a b l0 l1 ws s := h.below (below_drew1 (Below.refl _ _))
theorem PI.keep {w W W' : World} {p q a b : Nat} {l0 l1 : Int} {ws ws' : List Int} {s s' : Bool} (h : PI w W p q a b l0 l1 ws s) (hk : KeepBut W W' (w.heap.size + 1) none) (hI : IsBox w W' (w.heap.size + 1) 59 [] ws' s') (hB : Below w.heap.size w W') : PI w W' p q a b l0 l1 ws' s' :=
  ⟨hk.blk h.head (by omega) (by simp), hk.blk h.res (by omega) (by simp), hI, hB⟩
theorem PI.set {w W : World} {p q a b : Nat} {l0 l1 : Int} {ws : List Int} {s : Bool} (h : PI w W p q a b l0 l1 ws s) {g : Nat} (hg : w.heap.size + 3 ≤ g) (j : Nat) (v : Value) : PI w (W.setCell ⟨g, j, none⟩ v) p q a b l0 l1 ws s := by
  obtain ⟨h1, h2, ⟨A, c, h3, h4⟩, h5⟩ := h
  exact ⟨blk_far h1 (by show w.heap.size + 2 ≠ g; omega) v, blk_far h2 (by show w.heap.size ≠ g; omega) v, ⟨A, c, blk_far h3 (by show w.heap.size + 1 ≠ g; omega) v, h4⟩, below_set h5 (by omega)⟩
theorem PI.size {w W : World} {p q a b : Nat} {l0 l1 : Int} {ws : List Int} {s : Bool} (h : PI w W p q a b l0 l1 ws s) : w.heap.size + 3 ≤ W.heap.size := blk_lt h.head
theorem PI.c0 {w W : World} {p q a b : Nat} {l0 l1 : Int} {ws : List Int} {s : Bool} (h : PI w W p q a b l0 l1 ws s) : W.cell? ⟨w.heap.size + 2, 0, none⟩ = some (.int .i64 p) := (blk_cell h.head 0).trans rfl
theorem PI.c1 {w W : World} {p q a b : Nat} {l0 l1 : Int} {ws : List Int} {s : Bool} (h : PI w W p q a b l0 l1 ws s) : W.cell? ⟨w.heap.size + 2, 1, none⟩ = some (.int .i64 q) := (blk_cell h.head 1).trans rfl
theorem PI.c2 {w W : World} {p q a b : Nat} {l0 l1 : Int} {ws : List Int} {s : Bool} (h : PI w W p q a b l0 l1 ws s) : W.cell? ⟨w.heap.size + 2, 2, none⟩ = some (.int .i64 l0) := (blk_cell h.head 2).trans rfl
theorem PI.c3 {w W : World} {p q a b : Nat} {l0 l1 : Int} {ws : List Int} {s : Bool} (h : PI w W p q a b l0 l1 ws s) : W.cell? ⟨w.heap.size + 2, 3, none⟩ = some (.int .i64 a) := (blk_cell h.head 3).trans rfl
theorem PI.c4 {w W : World} {p q a b : Nat} {l0 l1 : Int} {ws : List Int} {s : Bool} (h : PI w W p q a b l0 l1 ws s) : W.cell? ⟨w.heap.size + 2, 4, none⟩ = some (.int .i64 l1) := (blk_cell h.head 4).trans rfl
theorem PI.c5 {w W : World} {p q a b : Nat} {l0 l1 : Int} {ws : List Int} {s : Bool} (h : PI w W p q a b l0 l1 ws s) : W.cell? ⟨w.heap.size + 2, 5, none⟩ = some (.int .i64 b) := (blk_cell h.head 5).trans rfl
theorem kal {W : World} {a : Addr} {v : Value} (h : W.cell? a = some v) (o : Obj) : (W.alloc o).cell? a = some v := (World.cell?_alloc_lt _ _ _ (World.block_lt_of_cell? _ _ h)).trans h
theorem kdr {W : World} {a : Addr} {v : Value} (h : W.cell? a = some v) : W.drew.cell? a = some v := h
theorem kst {W : World} {a : Addr} {v : Value} (h : W.cell? a = some v) {g : Nat} (hne : a.block ≠ g) {v0 v1 v2 v3 v4 v5 : Value} : ((((((W.setCell ⟨g, 0, none⟩ v0).setCell ⟨g, 1, none⟩ v1).setCell ⟨g, 2, none⟩ v2).setCell ⟨g, 3, none⟩ v3).setCell ⟨g, 4, none⟩ v4).setCell ⟨g, 5, none⟩ v5).cell? a = some v := by
  rw [World.cell?_setCell_far _ _ _ _ (fun e => hne e.symm), World.cell?_setCell_far _ _ _ _ (fun e => hne e.symm), World.cell?_setCell_far _ _ _ _ (fun e => hne e.symm), World.cell?_setCell_far _ _ _ _ (fun e => hne e.symm), World.cell?_setCell_far _ _ _ _ (fun e => hne e.symm), World.cell?_setCell_far _ _ _ _ (fun e => hne e.symm)]
  exact h
theorem kst2 {W : World} {a : Addr} {v : Value} (h : W.cell? a = some v) {g i j : Nat} (hne : a.block ≠ g) {v0 v1 : Value} : ((W.setCell ⟨g, i, none⟩ v0).setCell ⟨g, j, none⟩ v1).cell? a = some v := by
  rw [World.cell?_setCell_far _ _ _ _ (fun e => hne e.symm), World.cell?_setCell_far _ _ _ _ (fun e => hne e.symm)]
  exact h
/-- A block of a new configuration. -/
structure CB (W : World) (k : Nat) : Prop where
  blk : W.heap[k]? = some (.cells #[.slice none 0 0, .slice none 0 0, .int .i64 0, .slice none 0 0, .int .i64 0, .slice none 0 0] 31 (0, 0))
theorem CB.c0 {W : World} {k : Nat} (h : CB W k) : W.cell? ⟨k, 0, none⟩ = some (.slice none 0 0) := (blk_cell h.blk 0).trans rfl
theorem CB.c1 {W : World} {k : Nat} (h : CB W k) : W.cell? ⟨k, 1, none⟩ = some (.slice none 0 0) := (blk_cell h.blk 1).trans rfl
theorem CB.c2 {W : World} {k : Nat} (h : CB W k) : W.cell? ⟨k, 2, none⟩ = some (.int .i64 0) := (blk_cell h.blk 2).trans rfl
theorem CB.c3 {W : World} {k : Nat} (h : CB W k) : W.cell? ⟨k, 3, none⟩ = some (.slice none 0 0) := (blk_cell h.blk 3).trans rfl
theorem CB.c4 {W : World} {k : Nat} (h : CB W k) : W.cell? ⟨k, 4, none⟩ = some (.int .i64 0) := (blk_cell h.blk 4).trans rfl
theorem CB.c5 {W : World} {k : Nat} (h : CB W k) : W.cell? ⟨k, 5, none⟩ = some (.slice none 0 0) := (blk_cell h.blk 5).trans rfl
theorem CB.new (W : World) : CB (W.alloc (.cells #[.slice none 0 0, .slice none 0 0, .int .i64 0, .slice none 0 0, .int .i64 0, .slice none 0 0] 31)) W.heap.size := ⟨blk_new W _⟩
theorem CB.drew {W : World} {k : Nat} (h : CB W k) : CB W.drew k := ⟨h.blk⟩
/-- What a call kept. -/
structure KB (W W' : World) (g : Nat) : Prop where
  keep : KeepBut W W' g none
theorem CB.kept {W W' : World} {k g : Nat} (h : CB W k) (hk : KB W W' g) (hne : k ≠ g) : CB W' k := ⟨hk.keep.blk h.blk hne (by simp)⟩
theorem parts_calls {w W : World} {p q a b : Nat} {l0 l1 : Int} {ws : List Int} {s : Bool} (h : PI w W p q a b l0 l1 ws s) (n : Nat) (hn : n ≤ 64) (hw : Words ws) :
    Calls Try.prog 31 #[.pointer (some ⟨w.heap.size + 1, 0, none⟩), .int .i64 n, .func (.func 32) #[] #[]] W fun e w' => ∃ A c, e = .returned (.slice A n c) ∧ Kd.R k64 64 w' (W.heap.size + 1) (fun j => W.heap.size + 1 ≤ j) (.slice A n c) (parts ws n) ∧ PI w w' p q a b l0 l1 (ws.drop (2 * n)) (shortS ws s (2 * n)) ∧ KB W w' (w.heap.size + 1) := by
  refine (rows_part w (w.heap.size + 1) ws s W n hn hw h.box h.bel).mono ?_
  rintro e w' ⟨v, rfl, h1, h2, h3, h4⟩
  obtain ⟨A, c, rfl⟩ := Kd.R_slice h1
  rw [parts_length] at h1 ⊢
  exact ⟨A, c, rfl, h1, h.keep h4 h2 h3, ⟨h4⟩⟩
theorem chans_calls {w W : World} {p q a b : Nat} {l0 l1 : Int} {ws : List Int} {s : Bool} (h : PI w W p q a b l0 l1 ws s) (n : Nat) (hn : n ≤ 64) (hw : Words ws) :
    Calls Try.prog 33 #[.pointer (some ⟨w.heap.size + 1, 0, none⟩), .int .i64 n, .func (.func 34) #[] #[]] W fun e w' => ∃ A c, e = .returned (.slice A n c) ∧ Kd.R k68 68 w' (W.heap.size + 1) (fun j => W.heap.size + 1 ≤ j) (.slice A n c) (chans ws n) ∧ PI w w' p q a b l0 l1 (ws.drop (7 * n)) (shortS ws s (7 * n)) ∧ KB W w' (w.heap.size + 1) := by
  refine (rows_chan w (w.heap.size + 1) ws s W n hn hw h.box h.bel).mono ?_
  rintro e w' ⟨v, rfl, h1, h2, h3, h4⟩
  obtain ⟨A, c, rfl⟩ := Kd.R_slice h1
  rw [chans_length] at h1 ⊢
  exact ⟨A, c, rfl, h1, h.keep h4 h2 h3, ⟨h4⟩⟩
theorem windows_calls {w W : World} {p q a b : Nat} {l0 l1 : Int} {ws : List Int} {s : Bool} (h : PI w W p q a b l0 l1 ws s) (n : Nat) (hn : n ≤ 64) (hw : Words ws) :
    Calls Try.prog 35 #[.pointer (some ⟨w.heap.size + 1, 0, none⟩), .int .i64 n, .func (.func 36) #[] #[]] W fun e w' => ∃ A c, e = .returned (.slice A n c) ∧ Kd.R k72 72 w' (W.heap.size + 1) (fun j => W.heap.size + 1 ≤ j) (.slice A n c) (windows ws n) ∧ PI w w' p q a b l0 l1 (ws.drop (3 * n)) (shortS ws s (3 * n)) ∧ KB W w' (w.heap.size + 1) := by
  refine (rows_window w (w.heap.size + 1) ws s W n hn hw h.box h.bel).mono ?_
  rintro e w' ⟨v, rfl, h1, h2, h3, h4⟩
  obtain ⟨A, c, rfl⟩ := Kd.R_slice h1
  rw [windows_length] at h1 ⊢
  exact ⟨A, c, rfl, h1, h.keep h4 h2 h3, ⟨h4⟩⟩
/-- A configuration in the making, in block k: its rows are of the call's own. -/
structure CI (w W : World) (k : Nat) (u2 u3 u4 u5 : Value) (n m : Nat) (xs : List S64) (ys : List S68) : Prop where
  all : ∃ A0 c0 A1 c1, W.heap[k]? = some (.cells #[.slice A0 n c0, .slice A1 m c1, u2, u3, u4, u5] 31 (0, 0)) ∧ w.heap.size + 3 ≤ k ∧
    Kd.R k64 64 W (w.heap.size + 3) (fun j => j ≠ k ∧ w.heap.size + 3 ≤ j) (.slice A0 n c0) xs ∧ Kd.R k68 68 W (w.heap.size + 3) (fun j => j ≠ k ∧ w.heap.size + 3 ≤ j) (.slice A1 m c1) ys
theorem heap6 {W : World} {g j : Nat} (h : j ≠ g) {v0 v1 v2 v3 v4 v5 : Value} : ((((((W.setCell ⟨g, 0, none⟩ v0).setCell ⟨g, 1, none⟩ v1).setCell ⟨g, 2, none⟩ v2).setCell ⟨g, 3, none⟩ v3).setCell ⟨g, 4, none⟩ v4).setCell ⟨g, 5, none⟩ v5).heap[j]? = W.heap[j]? := by
  rw [Below.heap_setCell _ _ _ _ h, Below.heap_setCell _ _ _ _ h, Below.heap_setCell _ _ _ _ h, Below.heap_setCell _ _ _ _ h, Below.heap_setCell _ _ _ _ h, Below.heap_setCell _ _ _ _ h]
theorem PI.set6 {w W : World} {p q a b : Nat} {l0 l1 : Int} {ws : List Int} {s : Bool} (h : PI w W p q a b l0 l1 ws s) {g : Nat} (hg : w.heap.size + 3 ≤ g) {v0 v1 v2 v3 v4 v5 : Value} : PI w ((((((W.setCell ⟨g, 0, none⟩ v0).setCell ⟨g, 1, none⟩ v1).setCell ⟨g, 2, none⟩ v2).setCell ⟨g, 3, none⟩ v3).setCell ⟨g, 4, none⟩ v4).setCell ⟨g, 5, none⟩ v5) p q a b l0 l1 ws s :=
  (((((h.set hg 0 v0).set hg 1 v1).set hg 2 v2).set hg 3 v3).set hg 4 v4).set hg 5 v5
theorem rlow {α : Type} {d : Kd α} {e n b k : Nat} {ok : Nat → Prop} {W : World} {v : Value} {xs : List α} (h : Kd.R d e W b ok v xs) (hb : n ≤ b) (hne : ∀ j, ok j → j < W.heap.size → j ≠ k) : Kd.R d e W n (fun j => j ≠ k ∧ n ≤ j) v xs :=
  Kd.R_mono (Kd.R_lower (Kd.R_bound h) hb) (fun j hj => ⟨hne j hj.1 hj.2.2.1, by have := hj.2.1; omega⟩)
theorem ci_of {w W : World} {k n m : Nat} {A3 A4 : Option Addr} {c3 c4 : Nat} {xs : List S64} {ys : List S68} {v2 v3 v4 v5 : Value} (hC : CB W k) (hk : w.heap.size + 3 ≤ k) (h1 : Kd.R k64 64 W (w.heap.size + 3) (fun j => j ≠ k ∧ w.heap.size + 3 ≤ j) (.slice A3 n c3) xs) (h2 : Kd.R k68 68 W (w.heap.size + 3) (fun j => j ≠ k ∧ w.heap.size + 3 ≤ j) (.slice A4 m c4) ys) :
    CI w ((((((W.setCell ⟨k, 0, none⟩ (.slice A3 n c3)).setCell ⟨k, 1, none⟩ (.slice A4 m c4)).setCell ⟨k, 2, none⟩ v2).setCell ⟨k, 3, none⟩ v3).setCell ⟨k, 4, none⟩ v4).setCell ⟨k, 5, none⟩ v5) k v2 v3 v4 v5 n m xs ys :=
  ⟨A3, c3, A4, c4, put6 hC.blk _ _ _ _ _ _, hk, Kd.R_step h1 (fun _ hj _ => heap6 hj.1), Kd.R_step h2 (fun _ hj _ => heap6 hj.1)⟩
theorem ci_new {w W : World} {n m : Nat} {A3 A4 : Option Addr} {c3 c4 : Nat} {xs : List S64} {ys : List S68} {v2 v3 v4 v5 : Value} (hk : w.heap.size + 3 ≤ W.heap.size) (h1 : Kd.R k64 64 W (w.heap.size + 3) (fun j => j ≠ W.heap.size ∧ w.heap.size + 3 ≤ j) (.slice A3 n c3) xs) (h2 : Kd.R k68 68 W (w.heap.size + 3) (fun j => j ≠ W.heap.size ∧ w.heap.size + 3 ≤ j) (.slice A4 m c4) ys) :
    CI w (W.alloc (.cells #[.slice A3 n c3, .slice A4 m c4, v2, v3, v4, v5] 31)) W.heap.size v2 v3 v4 v5 n m xs ys :=
  ⟨A3, c3, A4, c4, blk_new W _, hk, Kd.R_below h1 (below_alloc (Below.refl _ _) _), Kd.R_below h2 (below_alloc (Below.refl _ _) _)⟩
theorem pi_join {w W : World} {p q a b : Nat} {l0 l1 : Int} {ws : List Int} {s : Bool} {i j : Nat} (h : PI w W p q a b l0 l1 ((ws.drop i).drop j) (shortS (ws.drop i) (shortS ws s i) j)) : PI w W p q a b l0 l1 (ws.drop (i + j)) (shortS ws s (i + j)) := by
  rw [List.drop_drop, shortS_drop] at h
  exact h
set_option maxHeartbeats 4000000 in
theorem parse_own (A : Option Addr) (c : Nat) (ws : List Int) (w : World) (hw : Words ws) (hc : ws.length ≤ c) (hr : Kd.C (Kd.int .u32) w A ws.length ws) :
    Calls Try.prog 14 #[.slice A ws.length c] w fun e w' => ∃ cs, e = .returned (.tuple #[.agg cs, .int .i64 (parseE ws)]) ∧ IsOwn w' w.heap.size (parseR ws) cs ∧ Below w.heap.size w w' := by
  have HW := Aside0.mk hw
  have hr0 := blk_alloc (blk_alloc (blk_new w (.cells #[.slice none 0 0, .slice none 0 0, .int .i64 0, .slice none 0 0, .int .i64 0, .slice none 0 0] 31)) (.cells #[.slice A ws.length c, .bool false] 59)) (.cells #[.int .i64 0, .int .i64 0, .int .i64 0, .int .i64 0, .int .i64 0, .int .i64 0] 60)
  have hg0 := blk_alloc (blk_new (w.alloc (.cells #[.slice none 0 0, .slice none 0 0, .int .i64 0, .slice none 0 0, .int .i64 0, .slice none 0 0] 31)) (.cells #[.slice A ws.length c, .bool false] 59)) (.cells #[.int .i64 0, .int .i64 0, .int .i64 0, .int .i64 0, .int .i64 0, .int .i64 0] 60)
  have ha0 := blk_new ((w.alloc (.cells #[.slice none 0 0, .slice none 0 0, .int .i64 0, .slice none 0 0, .int .i64 0, .slice none 0 0] 31)).alloc (.cells #[.slice A ws.length c, .bool false] 59)) (.cells #[.int .i64 0, .int .i64 0, .int .i64 0, .int .i64 0, .int .i64 0, .int .i64 0] 60)
  have hb1 := below_alloc (below_alloc (below_alloc (Below.refl _ w) (.cells #[.slice none 0 0, .slice none 0 0, .int .i64 0, .slice none 0 0, .int .i64 0, .slice none 0 0] 31)) (.cells #[.slice A ws.length c, .bool false] 59)) (.cells #[.int .i64 0, .int .i64 0, .int .i64 0, .int .i64 0, .int .i64 0, .int .i64 0] 60)
  rw [World.size_alloc] at hg0 ha0
  rw [World.size_alloc] at ha0
  have HR := Aside0.mk hr0
  have HA := Aside0.mk ha0
  have HI : Aside0 (IsBox w _ (w.heap.size + 1) 59 [] ws false) := ⟨⟨A, c, hg0, by omega, hc, hr⟩⟩
  have HB := Aside0.mk hb1
  have HRW := Aside0.mk hr
  clear hw hr hc hr0 ha0 hg0 hb1
  go_enter Try.func14, Try.ntmps14
  go_wp2
  generalize hw1 : ((w.alloc (.cells #[.slice none 0 0, .slice none 0 0, .int .i64 0, .slice none 0 0, .int .i64 0, .slice none 0 0] 31)).alloc (.cells #[.slice A ws.length c, .bool false] 59)).alloc (.cells #[.int .i64 0, .int .i64 0, .int .i64 0, .int .i64 0, .int .i64 0, .int .i64 0] 60) = w1 at *
  clear hw1
  go_loopw [13] (fun v wr => ∃ i : Nat, i ≤ 6 ∧ v = .int .i64 i ∧ Aside0 (wr.heap[w.heap.size + 2]? = some (.cells (arrV ws 6 i).toArray 60 (0, 0))) ∧ Aside0 (wr.heap[w.heap.size]? = some (.cells #[.slice none 0 0, .slice none 0 0, .int .i64 0, .slice none 0 0, .int .i64 0, .slice none 0 0] 31 (0, 0))) ∧ Aside0 (IsBox w wr (w.heap.size + 1) 59 [] (ws.drop i) (shortS ws false i)) ∧ Aside0 (Below w.heap.size w wr)) (fun v _ => 6 - (intOf v).toNat)
  case atStart => exact ⟨0, by omega, rfl, HA, HR, ⟨by simpa [shortS] using HI.out⟩, HB⟩
  case round =>
    obtain ⟨i, hi, rfl, HA, HR, HI, HB⟩ := hrel
    by_cases hlt : i < 6
    · have hn := next_any 59 [] (w.heap.size + 1) (ws.drop i) (shortS ws false i) w wr HI.out HB.out
      have hv := (HW.out.drop i).head
      rw [nextV_drop, nextS_drop, List.tail_drop] at hn
      rw [nextV_drop] at hv
      have HN := Aside0.mk hn
      clear hn
      go_wp2_with fail
      refine HN.out.mono ?_
      rintro e w2 ⟨rfl, h1, h2, h3⟩
      have ha2 := h3.blk HA.out (by omega) (by simp)
      have hr2 := h3.blk HR.out (by omega) (by simp)
      have hcl : ∃ u, w2.cell? ⟨w.heap.size + 2, i, none⟩ = some u := ⟨_, (blk_cell ha2 i).trans (by rw [List.getElem?_toArray]; exact List.getElem?_eq_getElem (by simp [arrV]; omega))⟩
      obtain ⟨u, hcl⟩ := hcl
      have hfl := blk_frozen ha2 i
      have ha3 := blk_set ha2 i (.int .i64 (ws.getD i 0))
      rw [arrV_set] at ha3
      have hr3 := blk_far hr2 (p := ⟨w.heap.size + 2, i, none⟩) (by show w.heap.size ≠ w.heap.size + 2; omega) (.int .i64 (ws.getD i 0))
      have hI3 : IsBox w (w2.setCell ⟨w.heap.size + 2, i, none⟩ (.int .i64 (ws.getD i 0))) (w.heap.size + 1) 59 [] (ws.drop (i + 1)) (shortS ws false (i + 1)) := by
        obtain ⟨A, c, hg, h⟩ := h1
        exact ⟨A, c, blk_far hg (by show w.heap.size + 1 ≠ w.heap.size + 2; omega) _, h⟩
      have hB3 : Below w.heap.size w (w2.setCell ⟨w.heap.size + 2, i, none⟩ (.int .i64 (ws.getD i 0))) := below_set h2 (by omega)
      have HA3 := Aside0.mk ha3
      have HR3 := Aside0.mk hr3
      have HI3 := Aside0.mk hI3
      have HB3 := Aside0.mk hB3
      clear h1 h2 h3 ha2 hr2 ha3 hr3 hI3 hB3
      generalize ws.getD i 0 = x at *
      go_wp2
      go_roundw
      case rel => exact ⟨i + 1, by omega, by go_num, HA3, HR3, HI3, HB3⟩
      case measure => simp [intOf]; omega
    · obtain rfl : i = 6 := by omega
      have hv : ∀ j, 0 ≤ ws.getD j 0 ∧ ws.getD j 0 ≤ 4294967295 := fun j => by
        rw [List.getD_eq_getElem?_getD]
        cases h : ws[j]? with
        | none => simp
        | some x => exact HW.out x (List.mem_of_getElem? h)
      have hnat : ∀ j, ws.getD j 0 = ((hdN ws j : Nat) : Int) := fun j => (Int.toNat_of_nonneg (hv j).1).symm
      have HV := Aside0.mk hv
      have h0 := hnat 0
      have h1 := hnat 1
      have h3 := hnat 3
      have h5 := hnat 5
      have hb0 := (hv 0).2
      have hb1 := (hv 1).2
      have hb3 := (hv 3).2
      have hb5 := (hv 5).2
      rw [h0] at hb0
      rw [h1] at hb1
      rw [h3] at hb3
      rw [h5] at hb5
      have hc0 : wr.cell? ⟨w.heap.size + 2, 0, none⟩ = some (.int .i64 (hdN ws 0 : Nat)) := (blk_cell HA.out 0).trans (by rw [← h0]; simp [arrV])
      have hc1 : wr.cell? ⟨w.heap.size + 2, 1, none⟩ = some (.int .i64 (hdN ws 1 : Nat)) := (blk_cell HA.out 1).trans (by rw [← h1]; simp [arrV])
      have hA2 : wr.heap[w.heap.size + 2]? = some (.cells #[.int .i64 (hdN ws 0 : Nat), .int .i64 (hdN ws 1 : Nat), .int .i64 (ws.getD 2 0), .int .i64 (hdN ws 3 : Nat), .int .i64 (ws.getD 4 0), .int .i64 (hdN ws 5 : Nat)] 60 (0, 0)) := by
        have h := HA.out
        rw [show (arrV ws 6 6).toArray = #[.int .i64 (hdN ws 0 : Nat), .int .i64 (hdN ws 1 : Nat), .int .i64 (ws.getD 2 0), .int .i64 (hdN ws 3 : Nat), .int .i64 (ws.getD 4 0), .int .i64 (hdN ws 5 : Nat)] by rw [← h0, ← h1, ← h3, ← h5]; rfl] at h
        exact h
      have HA2 := Aside0.mk hA2
      clear hA2 hv hnat h0 h1 h3 h5 HA
      obtain ⟨p, hp⟩ : ∃ p, hdN ws 0 = p := ⟨_, rfl⟩
      obtain ⟨q, hq⟩ : ∃ p, hdN ws 1 = p := ⟨_, rfl⟩
      obtain ⟨a, ha⟩ : ∃ p, hdN ws 3 = p := ⟨_, rfl⟩
      obtain ⟨b, hb⟩ : ∃ p, hdN ws 5 = p := ⟨_, rfl⟩
      obtain ⟨l0, hl0⟩ : ∃ l, ws.getD 2 0 = l := ⟨_, rfl⟩
      obtain ⟨l1, hl1⟩ : ∃ l, ws.getD 4 0 = l := ⟨_, rfl⟩
      rw [hp] at hc0 hb0
      rw [hq] at hc1 hb1
      rw [ha] at hb3
      rw [hb] at hb5
      rw [hp, hq, ha, hb, hl0, hl1] at HA2
      have HPQ : Aside0 (hdN ws 0 = p ∧ hdN ws 1 = q ∧ hdN ws 3 = a ∧ hdN ws 5 = b ∧ ws.getD 2 0 = l0 ∧ ws.getD 4 0 = l1) := ⟨⟨hp, hq, ha, hb, hl0, hl1⟩⟩
      clear hp hq ha hb hl0 hl1
      go_wp2_with fail
      go_quiet (fail)
      have hbd := pw_below_drewN (Below.refl wr.heap.size wr) nq
      have HA3 := Aside0.mk (blk_below HA2.out hbd)
      have HR3 := Aside0.mk (blk_below HR.out hbd)
      have HI3 := Aside0.mk (HI.out.below hbd)
      have HB3 := Aside0.mk (HB.out.trans (hbd.mono HB.out.size))
      clear hbd HA2 HR HI HB hc0 hc1
      generalize wr.drewN nq = w2 at *
      have hc0 := (blk_cell HA3.out 0).trans rfl
      have hc1 := (blk_cell HA3.out 1).trans rfl
      have hc2 := (blk_cell HA3.out 2).trans rfl
      have hc3 := (blk_cell HA3.out 3).trans rfl
      have hc4 := (blk_cell HA3.out 4).trans rfl
      have hc5 := (blk_cell HA3.out 5).trans rfl
      have hz0 := (blk_cell HR3.out 0).trans rfl
      have hz1 := (blk_cell HR3.out 1).trans rfl
      have hz2 := (blk_cell HR3.out 2).trans rfl
      have hz3 := (blk_cell HR3.out 3).trans rfl
      have hz4 := (blk_cell HR3.out 4).trans rfl
      have hz5 := (blk_cell HR3.out 5).trans rfl
      have hf0 := blk_frozen HR3.out 0
      have hf1 := blk_frozen HR3.out 1
      have hf2 := blk_frozen HR3.out 2
      have hf3 := blk_frozen HR3.out 3
      have hf4 := blk_frozen HR3.out 4
      have hf5 := blk_frozen HR3.out 5
      have hsh : w2.cell? ⟨w.heap.size + 1, 1, none⟩ = some (.bool (shortS ws false 6)) := by
        obtain ⟨A, c, hg, _⟩ := HI3.out
        exact (blk_cell hg 1).trans rfl
      by_cases hl6 : ws.length < 6
      · have hs6 : shortS ws false 6 = true := by simp [shortS, hl6]
        rw [hs6] at hsh
        have hE : parseE ws = 8 := by rw [parseE, if_pos hl6]
        have hR : parseR ws = zcfg := by rw [parseR, hE]; rfl
        have HE := Aside0.mk hE
        have HRR := Aside0.mk hR
        clear hE hR hs6 hl6
        go_wp2
        have hfin := put6 HR3.out (.slice none 0 0) (.slice none 0 0) (.int .i64 0) (.slice none 0 0) (.int .i64 0) (.slice none 0 0)
        have hbf := below6 HB3.out (Nat.le_refl _) (.slice none 0 0) (.slice none 0 0) (.int .i64 0) (.slice none 0 0) (.int .i64 0) (.slice none 0 0)
        generalize hWF : (((((w2.setCell ⟨w.heap.size, 0, none⟩ _).setCell _ _).setCell _ _).setCell _ _).setCell _ _).setCell _ _ = wz at *
        have hz0 := (blk_cell hfin 0).trans rfl
        have hz1 := (blk_cell hfin 1).trans rfl
        have hz2 := (blk_cell hfin 2).trans rfl
        have hz3 := (blk_cell hfin 3).trans rfl
        have hz4 := (blk_cell hfin 4).trans rfl
        have hz5 := (blk_cell hfin 5).trans rfl
        (try simp only [Exit.inBlock, Exit.then])
        refine bodyPost_ret (by simp [results, Try.results14, go_sem, hz0, hz1, hz2, hz3, hz4, hz5]; try rfl) rfl ?_
        exact ⟨_, by rw [HE.out], by rw [HRR.out]; exact isOwn_zero _ _, hbf⟩
      · have hs6 : shortS ws false 6 = false := by simp [shortS, hl6]
        rw [hs6] at hsh
        by_cases hbig : bigW ws
        · have hE : parseE ws = 7 := by rw [parseE, if_neg hl6, if_pos hbig]
          have hR : parseR ws = zcfg := by rw [parseR, hE]; rfl
          have HE := Aside0.mk hE
          have HRR := Aside0.mk hR
          clear hE hR hs6
          rw [bigW, HPQ.out.1, HPQ.out.2.1, HPQ.out.2.2.1, HPQ.out.2.2.2.1] at hbig
          have hmx : decide ((64 : Int) < ((mx (mx (mx p q) a) b : Nat) : Int)) = true := by
            have h : 64 < mx (mx (mx p q) a) b := by simp only [mx_lt]; omega
            exact decide_eq_true (by omega)
          clear hbig
          go_wp2
          have hfin := put6 HR3.out (.slice none 0 0) (.slice none 0 0) (.int .i64 0) (.slice none 0 0) (.int .i64 0) (.slice none 0 0)
          have hbf := below6 HB3.out (Nat.le_refl _) (.slice none 0 0) (.slice none 0 0) (.int .i64 0) (.slice none 0 0) (.int .i64 0) (.slice none 0 0)
          generalize hWF : (((((w2.setCell ⟨w.heap.size, 0, none⟩ _).setCell _ _).setCell _ _).setCell _ _).setCell _ _).setCell _ _ = wz at *
          have hz0 := (blk_cell hfin 0).trans rfl
          have hz1 := (blk_cell hfin 1).trans rfl
          have hz2 := (blk_cell hfin 2).trans rfl
          have hz3 := (blk_cell hfin 3).trans rfl
          have hz4 := (blk_cell hfin 4).trans rfl
          have hz5 := (blk_cell hfin 5).trans rfl
          (try simp only [Exit.inBlock, Exit.then])
          refine bodyPost_ret (by simp [results, Try.results14, go_sem, hz0, hz1, hz2, hz3, hz4, hz5]; try rfl) rfl ?_
          exact ⟨_, by rw [HE.out], by rw [HRR.out]; exact isOwn_zero _ _, hbf⟩
        · have hle : p ≤ 64 ∧ q ≤ 64 ∧ a ≤ 64 ∧ b ≤ 64 := by
            rw [bigW, HPQ.out.1, HPQ.out.2.1, HPQ.out.2.2.1, HPQ.out.2.2.2.1] at hbig
            omega
          obtain ⟨lp, lq, la, lb⟩ := hle
          have HBG := Aside0.mk (And.intro hl6 hbig)
          have hmx : decide ((64 : Int) < ((mx (mx (mx p q) a) b : Nat) : Int)) = false := by
            have h : ¬ 64 < mx (mx (mx p q) a) b := by simp only [mx_lt]; omega
            exact decide_eq_false (by omega)
          clear hbig hs6 hz0 hz1 hz2 hz3 hz4 hz5 hf0 hf1 hf2 hf3 hf4 hf5
          have HP := Aside0.mk (PI.mk HA3.out HR3.out HI3.out HB3.out)
          clear HA3 HR3 HI3 HB3
          go_upto_region 13 with fail
          go_cut [9] (fun s9 wx => ∃ k : Nat, s9 = .pointer (some ⟨k, 0, none⟩) ∧ Aside0 (PI w wx p q a b l0 l1 ((ws.drop 6).drop (2 * p + 7 * q)) (shortS (ws.drop 6) (shortS ws false 6) (2 * p + 7 * q))) ∧ Aside0 (CI w wx k (.int .i64 0) (.slice none 0 0) (.int .i64 0) (.slice none 0 0) p q (parts (ws.drop 6) p) (chans ((ws.drop 6).drop (2 * p)) q)))
          case first =>
            have hsz2 := HP.out.size
            clear hc0 hc1 hc2 hc3 hc4 hc5 hsh
            have hc0 := HP.out.c0
            have hc1 := HP.out.c1
            go_region_held3 (fun w' => w'.cell? ⟨w.heap.size + 2, 0, none⟩ = some (.int .i64 p) ∧ w'.cell? ⟨w.heap.size + 2, 1, none⟩ = some (.int .i64 q)) (first | with_reducible exact ⟨hc0, hc1⟩ | with_reducible exact ⟨kdr hc0, kdr hc1⟩ | with_reducible exact ⟨kdr (kal hc0 _), kdr (kal hc1 _)⟩ | with_reducible exact ⟨he0, he1⟩ | with_reducible exact ⟨kal he0 _, kal he1 _⟩ | with_reducible exact ⟨hg0, hg1⟩ | with_reducible exact ⟨kal hg0 _, kal hg1 _⟩ | (with_reducible refine ⟨kst hg0 ?_, kst hg1 ?_⟩ <;> (show w.heap.size + 2 ≠ _; omega)) | (with_reducible refine ⟨kst (kal hg0 _) ?_, kst (kal hg1 _) ?_⟩ <;> (show w.heap.size + 2 ≠ _; omega)) | (trace_state; fail))
              (first
                | (go_at_call 31; refine (parts_calls (by first | exact HP.out.drew | exact (HP.out.alloc _).drew) p lp (HW.out.drop _)).mono ?_; rintro e w3 ⟨A3, c3, rfl, h1, h2, h3⟩; have he0 := h2.c0; have he1 := h2.c1; (try have HC4 := Aside0.mk (CB.kept (CB.drew (CB.new w2)) h3 (by omega))); have H1 := Aside0.mk h1; have H2 := Aside0.mk h2; have H3 := Aside0.mk h3; have hsz3 := h2.size; clear h1 h2 h3)
                | (go_at_call 33; refine (chans_calls (by first | exact H2.out | exact H2.out.alloc _) q lq ((HW.out.drop _).drop _)).mono ?_; rintro e w4 ⟨A4, c4, rfl, h1, h2, h3⟩; have hg0 := h2.c0; have hg1 := h2.c1; (try (first | have HC5 := Aside0.mk (CB.kept HC4.out h3 (by omega)) | have HC5 := Aside0.mk (CB.kept (CB.new w3) h3 (by omega)))); (try (skip; have hk0 := HC5.out.c0; have hj0 := blk_frozen HC5.out.blk 0; have hk1 := HC5.out.c1; have hj1 := blk_frozen HC5.out.blk 1; have hk2 := HC5.out.c2; have hj2 := blk_frozen HC5.out.blk 2; have hk3 := HC5.out.c3; have hj3 := blk_frozen HC5.out.blk 3; have hk4 := HC5.out.c4; have hj4 := blk_frozen HC5.out.blk 4; have hk5 := HC5.out.c5; have hj5 := blk_frozen HC5.out.blk 5)); have G1 := Aside0.mk h1; have G2 := Aside0.mk h2; have G3 := Aside0.mk h3; have hsz4 := h2.size; clear h1 h2 h3))
            · go_wp2_with fail
              go_meet
              exact ⟨w4.heap.size, rfl, ⟨pi_join (G2.out.alloc _)⟩, ⟨ci_new hsz4 (rlow (Kd.R_keep H1.out G3.out.keep (fun j hj => by simp at hj; omega)) (by simp; omega) (fun j _ h => by omega)) (rlow G1.out (by omega) (fun j _ h => by omega))⟩⟩
            · go_wp2_with fail
              go_meet
              exact ⟨w3.heap.size, rfl, ⟨pi_join (G2.out.set6 hsz3)⟩, ⟨ci_of HC5.out hsz3 (Kd.R_keep (Kd.R_below (rlow H1.out (by simp; omega) (fun j _ h => by omega)) (below_alloc (Below.refl _ _) _)) G3.out.keep (fun j hj => by have h : w.heap.size + 3 ≤ j := hj.2; omega)) (rlow G1.out (by simp; omega) (fun j h _ => by simp at h; omega))⟩⟩
            · go_wp2_with fail
              go_meet
              exact ⟨w2.heap.size, rfl, ⟨pi_join (G2.out.set6 hsz2)⟩, ⟨ci_of HC5.out hsz2 (Kd.R_keep (rlow H1.out (by simp; omega) (fun j h _ => by simp at h; omega)) G3.out.keep (fun j hj => by have h : w.heap.size + 3 ≤ j := hj.2; omega)) (rlow G1.out (by omega) (fun j h _ => by have h' : w3.heap.size + 1 ≤ j := h; have := H3.out.keep.1; simp at this; omega))⟩⟩
          case rest =>
            clear HP
            obtain ⟨k, rfl, HP, HCI⟩ := hcut
            obtain ⟨A0, c0, A1, c1, hblk, hk, hx, hy⟩ := HCI.out.all
            have HK := Aside0.mk hblk
            have HX := Aside0.mk hx
            have HY := Aside0.mk hy
            have hsz := HP.out.size
            have hkw := blk_lt hblk
            clear HCI hblk hx hy hc0 hc1 hc2 hc3 hc4 hc5 hsh
            have hc2 := HP.out.c2
            have hc3 := HP.out.c3
            go_wp2_with fail
            go_region_held3 (fun w' => w'.cell? ⟨w.heap.size + 2, 2, none⟩ = some (.int .i64 l0) ∧ w'.cell? ⟨w.heap.size + 2, 3, none⟩ = some (.int .i64 a)) (first | with_reducible exact ⟨hc2, hc3⟩ | with_reducible exact ⟨kdr hc2, kdr hc3⟩ | with_reducible exact ⟨he2, he3⟩ | (with_reducible refine ⟨kst2 he2 ?_, kst2 he3 ?_⟩ <;> (show w.heap.size + 2 ≠ _; omega)) | (trace_state; fail))
              ((go_at_call 35; refine (windows_calls (by first | exact HP.out.drew | exact HP.out) a la (((HW.out.drop _).drop _))).mono ?_; rintro e w5 ⟨A5, c5, rfl, h1, h2, h3⟩; have he2 := h2.c2; have he3 := h2.c3; have hblk := h3.keep.blk HK.out (show k ≠ w.heap.size + 1 by omega) (by simp); have hm2 := (blk_cell hblk 2).trans rfl; have hm3 := (blk_cell hblk 3).trans rfl; have hn2 := blk_frozen hblk 2; have hn3 := blk_frozen hblk 3; have HK5 := Aside0.mk hblk; have H1 := Aside0.mk h1; have H2 := Aside0.mk h2; have H3 := Aside0.mk h3; clear h1 h2 h3 hblk))
            have hk5 : w.heap.size + 3 ≤ k := hk
            have HP6 := Aside0.mk (((pi_join H2.out).set hk 2 (.int .i64 l0)).set hk 3 (.slice A5 a c5))
            have HK6 : Aside0 (((w5.setCell ⟨k, 2, none⟩ (.int .i64 l0)).setCell ⟨k, 3, none⟩ (.slice A5 a c5)).heap[k]? = some (.cells #[.slice A0 p c0, .slice A1 q c1, .int .i64 l0, .slice A5 a c5, .int .i64 0, .slice none 0 0] 31 (0, 0))) := ⟨(blk_set (blk_set HK5.out 2 (.int .i64 l0)) 3 (.slice A5 a c5)).trans rfl⟩
            have HX6 := Aside0.mk (Kd.R_far (Kd.R_far (Kd.R_keep (Kd.R_drew HX.out) H3.out.keep (fun j hj => by have h : w.heap.size + 3 ≤ j := hj.2; omega)) (p := ⟨k, 2, none⟩) (fun j hj => hj.1) (.int .i64 l0)) (p := ⟨k, 3, none⟩) (fun j hj => hj.1) (.slice A5 a c5))
            have HY6 := Aside0.mk (Kd.R_far (Kd.R_far (Kd.R_keep (Kd.R_drew HY.out) H3.out.keep (fun j hj => by have h : w.heap.size + 3 ≤ j := hj.2; omega)) (p := ⟨k, 2, none⟩) (fun j hj => hj.1) (.int .i64 l0)) (p := ⟨k, 3, none⟩) (fun j hj => hj.1) (.slice A5 a c5))
            have HZ6 := Aside0.mk (Kd.R_far (Kd.R_far (rlow (n := w.heap.size + 3) (k := k) H1.out (by have h : (wc.drew).heap.size = wc.heap.size := rfl; omega) (fun j hj _ => by have h : (wc.drew).heap.size + 1 ≤ j := hj; have h2 : (wc.drew).heap.size = wc.heap.size := rfl; omega)) (p := ⟨k, 2, none⟩) (fun j hj => hj.1) (.int .i64 l0)) (p := ⟨k, 3, none⟩) (fun j hj => hj.1) (.slice A5 a c5))
            clear HP HK HX HY HK5 H1 H2 H3 hc2 hc3 he2 he3 hm2 hm3 hn2 hn3
            generalize (w5.setCell ⟨k, 2, none⟩ (.int .i64 l0)).setCell ⟨k, 3, none⟩ (.slice A5 a c5) = w6 at *
            have hc4 := HP6.out.c4
            have hc5 := HP6.out.c5
            have hsz6 := HP6.out.size
            have hkw6 := blk_lt HK6.out
            go_wp2_with fail
            go_region_held3 (fun w' => w'.cell? ⟨w.heap.size + 2, 4, none⟩ = some (.int .i64 l1) ∧ w'.cell? ⟨w.heap.size + 2, 5, none⟩ = some (.int .i64 b)) (first | with_reducible exact ⟨hc4, hc5⟩ | with_reducible exact ⟨kdr hc4, kdr hc5⟩ | with_reducible exact ⟨he4, he5⟩ | (with_reducible refine ⟨kst2 he4 ?_, kst2 he5 ?_⟩ <;> (show w.heap.size + 2 ≠ _; omega)) | (trace_state; fail))
              ((go_at_call 35; refine (windows_calls (by first | exact HP6.out.drew | exact HP6.out) b lb ((HW.out.drop _).drop _)).mono ?_; rintro e w7 ⟨A7, c7, rfl, h1, h2, h3⟩; have he4 := h2.c4; have he5 := h2.c5; have hblk := h3.keep.blk HK6.out (show k ≠ w.heap.size + 1 by omega) (by simp); have hm4 := (blk_cell hblk 4).trans rfl; have hm5 := (blk_cell hblk 5).trans rfl; have hn4 := blk_frozen hblk 4; have hn5 := blk_frozen hblk 5; have HK7 := Aside0.mk hblk; have H1 := Aside0.mk h1; have H2 := Aside0.mk h2; have H3 := Aside0.mk h3; clear h1 h2 h3 hblk))
            have HP8 := Aside0.mk (((pi_join H2.out).set hk 4 (.int .i64 l1)).set hk 5 (.slice A7 b c7))
            have HK8 : Aside0 (((w7.setCell ⟨k, 4, none⟩ (.int .i64 l1)).setCell ⟨k, 5, none⟩ (.slice A7 b c7)).heap[k]? = some (.cells #[.slice A0 p c0, .slice A1 q c1, .int .i64 l0, .slice A5 a c5, .int .i64 l1, .slice A7 b c7] 31 (0, 0))) := ⟨(blk_set (blk_set HK7.out 4 (.int .i64 l1)) 5 (.slice A7 b c7)).trans rfl⟩
            have HX8 := Aside0.mk (Kd.R_far (Kd.R_far (Kd.R_keep (Kd.R_drew HX6.out) H3.out.keep (fun j hj => by have h : w.heap.size + 3 ≤ j := hj.2; omega)) (p := ⟨k, 4, none⟩) (fun j hj => hj.1) (.int .i64 l1)) (p := ⟨k, 5, none⟩) (fun j hj => hj.1) (.slice A7 b c7))
            have HY8 := Aside0.mk (Kd.R_far (Kd.R_far (Kd.R_keep (Kd.R_drew HY6.out) H3.out.keep (fun j hj => by have h : w.heap.size + 3 ≤ j := hj.2; omega)) (p := ⟨k, 4, none⟩) (fun j hj => hj.1) (.int .i64 l1)) (p := ⟨k, 5, none⟩) (fun j hj => hj.1) (.slice A7 b c7))
            have HZ8 := Aside0.mk (Kd.R_far (Kd.R_far (Kd.R_keep (Kd.R_drew HZ6.out) H3.out.keep (fun j hj => by have h : w.heap.size + 3 ≤ j := hj.2; omega)) (p := ⟨k, 4, none⟩) (fun j hj => hj.1) (.int .i64 l1)) (p := ⟨k, 5, none⟩) (fun j hj => hj.1) (.slice A7 b c7))
            have HU8 := Aside0.mk (Kd.R_far (Kd.R_far (rlow (n := w.heap.size + 3) (k := k) H1.out (by have h : (w6.drew).heap.size = w6.heap.size := rfl; omega) (fun j hj _ => by have h : (w6.drew).heap.size + 1 ≤ j := hj; have h2 : (w6.drew).heap.size = w6.heap.size := rfl; omega)) (p := ⟨k, 4, none⟩) (fun j hj => hj.1) (.int .i64 l1)) (p := ⟨k, 5, none⟩) (fun j hj => hj.1) (.slice A7 b c7))
            clear HP6 HK6 HX6 HY6 HZ6 HK7 H1 H2 H3 hc4 hc5 he4 he5 hm4 hm5 hn4 hn5
            generalize (w7.setCell ⟨k, 4, none⟩ (.int .i64 l1)).setCell ⟨k, 5, none⟩ (.slice A7 b c7) = w8 at *
            have hp9 := pi_join HP8.out
            rw [show 6 + (2 * p + 7 * q + 3 * a + 3 * b) = cntW p q a b by unfold cntW; omega] at hp9
            have HP9 := Aside0.mk hp9
            clear hp9 HP8
            have hsz9 := HP9.out.size
            have hkw8 := blk_lt HK8.out
            have hsh : w8.cell? ⟨w.heap.size + 1, 1, none⟩ = some (.bool (shortS ws false (cntW p q a b))) := by
              obtain ⟨A, c, hg, _⟩ := HP9.out.box
              exact (blk_cell hg 1).trans rfl
            have hE0 : parseE ws = if ws.length < cntW p q a b then 8 else if cntW p q a b < ws.length then 9 else 0 := by
              rw [parseE, if_neg HBG.out.1, if_neg HBG.out.2, HPQ.out.1, HPQ.out.2.1, HPQ.out.2.2.1, HPQ.out.2.2.2.1]
            have hz0 := (blk_cell HP9.out.res 0).trans rfl
            have hf0 := blk_frozen HP9.out.res 0
            have hz1 := (blk_cell HP9.out.res 1).trans rfl
            have hf1 := blk_frozen HP9.out.res 1
            have hz2 := (blk_cell HP9.out.res 2).trans rfl
            have hf2 := blk_frozen HP9.out.res 2
            have hz3 := (blk_cell HP9.out.res 3).trans rfl
            have hf3 := blk_frozen HP9.out.res 3
            have hz4 := (blk_cell HP9.out.res 4).trans rfl
            have hf4 := blk_frozen HP9.out.res 4
            have hz5 := (blk_cell HP9.out.res 5).trans rfl
            have hf5 := blk_frozen HP9.out.res 5
            by_cases hlN : ws.length < cntW p q a b
            · have hE : parseE ws = 8 := by rw [hE0, if_pos hlN]
              have hR : parseR ws = zcfg := by rw [parseR, hE]; rfl
              have hs : shortS ws false (cntW p q a b) = true := by simp [shortS, hlN]
              rw [hs] at hsh
              have HE := Aside0.mk hE
              have HRR := Aside0.mk hR
              clear hE hR hs hE0
              go_wp2
              have hfin := put6 HP9.out.res (.slice none 0 0) (.slice none 0 0) (.int .i64 0) (.slice none 0 0) (.int .i64 0) (.slice none 0 0)
              have hbf := below6 HP9.out.bel (Nat.le_refl _) (.slice none 0 0) (.slice none 0 0) (.int .i64 0) (.slice none 0 0) (.int .i64 0) (.slice none 0 0)
              generalize hWF : (((((w8.setCell ⟨w.heap.size, 0, none⟩ _).setCell _ _).setCell _ _).setCell _ _).setCell _ _).setCell _ _ = wz at *
              have hz0 := (blk_cell hfin 0).trans rfl
              have hz1 := (blk_cell hfin 1).trans rfl
              have hz2 := (blk_cell hfin 2).trans rfl
              have hz3 := (blk_cell hfin 3).trans rfl
              have hz4 := (blk_cell hfin 4).trans rfl
              have hz5 := (blk_cell hfin 5).trans rfl
              (try simp only [Exit.inBlock, Exit.then])
              refine bodyPost_ret (by simp [results, Try.results14, go_sem, hz0, hz1, hz2, hz3, hz4, hz5]; try rfl) rfl ?_
              exact ⟨_, by rw [HE.out], by rw [HRR.out]; exact isOwn_zero _ _, hbf⟩
            · have hs : shortS ws false (cntW p q a b) = false := by simp [shortS, hlN]
              rw [hs] at hsh
              obtain ⟨Ab, cb, hgb, _, _, _⟩ := HP9.out.box
              have hwd := (blk_cell hgb 0).trans rfl
              by_cases hlM : cntW p q a b < ws.length
              · have hE : parseE ws = 9 := by rw [hE0, if_neg hlN, if_pos hlM]
                have hR : parseR ws = zcfg := by rw [parseR, hE]; rfl
                have HE := Aside0.mk hE
                have HRR := Aside0.mk hR
                have hD := done_reads (w.heap.size + 1) Ab _ cb _ w8 hwd hsh
                rw [show (decide ((ws.drop (cntW p q a b)).length = 0) && !false) = false by rw [List.length_drop]; simp; omega] at hD
                have HD := Aside0.mk hD
                clear hE hR hs hE0 hD hwd hgb
                go_wp2_with fail
                refine HD.out.mono ?_
                rintro e w9 ⟨rfl, rfl⟩
                go_wp2
                have hfin := put6 HP9.out.res (.slice none 0 0) (.slice none 0 0) (.int .i64 0) (.slice none 0 0) (.int .i64 0) (.slice none 0 0)
                have hbf := below6 HP9.out.bel (Nat.le_refl _) (.slice none 0 0) (.slice none 0 0) (.int .i64 0) (.slice none 0 0) (.int .i64 0) (.slice none 0 0)
                generalize hWF : (((((w8.setCell ⟨w.heap.size, 0, none⟩ _).setCell _ _).setCell _ _).setCell _ _).setCell _ _).setCell _ _ = wz at *
                have hz0 := (blk_cell hfin 0).trans rfl
                have hz1 := (blk_cell hfin 1).trans rfl
                have hz2 := (blk_cell hfin 2).trans rfl
                have hz3 := (blk_cell hfin 3).trans rfl
                have hz4 := (blk_cell hfin 4).trans rfl
                have hz5 := (blk_cell hfin 5).trans rfl
                (try simp only [Exit.inBlock, Exit.then])
                refine bodyPost_ret (by simp [results, Try.results14, go_sem, hz0, hz1, hz2, hz3, hz4, hz5]; try rfl) rfl ?_
                exact ⟨_, by rw [HE.out], by rw [HRR.out]; exact isOwn_zero _ _, hbf⟩
              · have hE : parseE ws = 0 := by rw [hE0, if_neg hlN, if_neg hlM]
                have hR : parseR ws = parseC ws := by rw [parseR, if_pos hE]
                have HE := Aside0.mk hE
                have HRR := Aside0.mk hR
                have hD := done_reads (w.heap.size + 1) Ab _ cb _ w8 hwd hsh
                rw [show (decide ((ws.drop (cntW p q a b)).length = 0) && !false) = true by rw [List.length_drop]; simp; omega] at hD
                have HD := Aside0.mk hD
                clear hE hR hs hE0 hD hwd hgb
                have hq0 := (blk_cell HK8.out 0).trans rfl
                have hq1 := (blk_cell HK8.out 1).trans rfl
                have hq2 := (blk_cell HK8.out 2).trans rfl
                have hq3 := (blk_cell HK8.out 3).trans rfl
                have hq4 := (blk_cell HK8.out 4).trans rfl
                have hq5 := (blk_cell HK8.out 5).trans rfl
                go_wp2_with fail
                refine HD.out.mono ?_
                rintro e w9 ⟨rfl, rfl⟩
                go_wp2
                have hfin := put6 HP9.out.res (.slice A0 p c0) (.slice A1 q c1) (.int .i64 l0) (.slice A5 a c5) (.int .i64 l1) (.slice A7 b c7)
                have hbf := below6 HP9.out.bel (Nat.le_refl _) (.slice A0 p c0) (.slice A1 q c1) (.int .i64 l0) (.slice A5 a c5) (.int .i64 l1) (.slice A7 b c7)
                generalize hWF : (((((w8.setCell ⟨w.heap.size, 0, none⟩ _).setCell _ _).setCell _ _).setCell _ _).setCell _ _).setCell _ _ = wz at *
                have hz0 := (blk_cell hfin 0).trans rfl
                have hz1 := (blk_cell hfin 1).trans rfl
                have hz2 := (blk_cell hfin 2).trans rfl
                have hz3 := (blk_cell hfin 3).trans rfl
                have hz4 := (blk_cell hfin 4).trans rfl
                have hz5 := (blk_cell hfin 5).trans rfl
                (try simp only [Exit.inBlock, Exit.then])
                refine bodyPost_ret (by simp [results, Try.results14, go_sem, hz0, hz1, hz2, hz3, hz4, hz5]; try rfl) rfl ?_
                have hst : ∀ j, j ≠ w.heap.size → wz.heap[j]? = w8.heap[j]? := fun j hj => by rw [← hWF]; exact heap6 hj
                refine ⟨_, by rw [HE.out], ?_, hbf⟩
                rw [HRR.out, parseC, HPQ.out.1, HPQ.out.2.1, HPQ.out.2.2.1, HPQ.out.2.2.2.1, HPQ.out.2.2.2.2.1, HPQ.out.2.2.2.2.2]
                exact ⟨_, _, _, _, rfl, Kd.R_mono (Kd.R_lower (Kd.R_step HX8.out (w1 := wz) (fun j hj _ => hst j (by omega))) (by omega)) (fun j hj => by omega), Kd.R_mono (Kd.R_lower (Kd.R_step HY8.out (w1 := wz) (fun j hj _ => hst j (by omega))) (by omega)) (fun j hj => by omega), Kd.R_mono (Kd.R_lower (Kd.R_step HZ8.out (w1 := wz) (fun j hj _ => hst j (by omega))) (by omega)) (fun j hj => by omega), Kd.R_mono (Kd.R_lower (Kd.R_step HU8.out (w1 := wz) (fun j hj _ => hst j (by omega))) (by omega)) (fun j hj => by omega)⟩
theorem parse_calls (A : Option Addr) (c : Nat) (ws : List Int) (w : World) (hw : Words ws) (hc : ws.length ≤ c) (hr : Kd.C (Kd.int .u32) w A ws.length ws) :
    Calls Try.prog 14 #[.slice A ws.length c] w fun e w' => ∃ cs, e = .returned (.tuple #[.agg cs, .int .i64 (parseE ws)]) ∧ IsCfg w' (parseR ws) cs ∧ Below w.heap.size w w' :=
  (parse_own A c ws w hw hc hr).mono (fun _ _ ⟨cs, h1, h2, h3⟩ => ⟨cs, h1, h2.cfg, h3⟩)
end Go.Proofs.Ytbpmmabdjabfcaa.Table
