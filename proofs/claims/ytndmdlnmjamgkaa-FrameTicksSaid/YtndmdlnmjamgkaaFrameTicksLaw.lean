import Derived.Test.YtndmdlnmjamgkaaFrameTicks
import Derived.Test.YtndmdlnmjamgkaaFrameNextLaw
import Derived.Stop.RegionWithIn
import Derived.Deep.RegionHeld3
import Derived.BigQuiet
import Derived.Maps.OwnIn
/- The law FrameTicks: its walk. -/
namespace Go.Proofs.Ytndmdlnmjamgkaa.Frame
open Go.RowKit Go.Shelf Go.Proofs.YtndmdlnmjamgkaaW.PrintWords Go.Proofs.YtndmdlnmjamgkaaW.PrintMore Go.Proofs.Ytndmdlnmjamgkaa.PF Go.Proofs.Ytndmdlnmjamgkaa.Opn
attribute [local go_sem] Oper.semAt_some
theorem ticks_calls (L : Int) (A : Option Addr) (n c : Nat) (part start : Int) (w : World) : Calls Try.prog 35 #[.agg #[.int .i64 L, .slice A n c], .int .i64 part, .int .i64 start] w fun e w' => e = .returned (.func (.func 54) #[] #[.pointer (some ⟨w.heap.size, 0, none⟩), .pointer (some ⟨w.heap.size + 1, 0, none⟩), .pointer (some ⟨w.heap.size + 1 + 1, 0, none⟩)]) ∧
    w' = ((w.alloc (.cells #[.int .i64 L, .slice A n c] 40)).alloc (.cells #[.int .i64 part] 3)).alloc (.cells #[.int .i64 start] 3) := by
  go_enter Try.func35, Try.ntmps35
  go_wp2
  go_ret
  exact ⟨by simp, rfl⟩
theorem seq_not_nil (g : Fn) (t c : Array Value) (w : World) : Sem.run Try.prog (binOp .neq 53 (.func g t c) .nilFunc) w = .ok (.bool true) w := rfl
attribute [local go_sem] seq_not_nil
theorem rticks_calls (L : Int) (A : Option Addr) (c len : Nat) (ws : List S46) (part start : Int) (many : Nat) (hm : many ≤ 100) (W : World) (hl : ws.length = len) (hc : len ≤ c) (hr : Kd.C k46 W A len ws) (w : World) (hb : Below W.heap.size W w) :
    Calls Try.prog 37 #[.agg #[.int .i64 L, .slice A len c], .int .i64 part, .int .i64 start, .int .i64 (many : Int)] w fun e w' => ∃ v, e = .returned v ∧ Kd.R (Kd.int .i64) 3 w' w.heap.size (fun _ => True) v ((allT L ws part start).take many) ∧ Below w.heap.size w w' := by
  subst hl
  exact portholeref09_Ticks.calls _ L A c ws part start (many : Int) _ w (Kd.C_below hr hb) hc (rticks_f L ws part start many hm _ (Nat.le_refl _))
theorem rd_atT (l : List Int) (j : Nat) (h : j < l.length) : rd l (j : Int) = l[j] := by
  unfold rd
  rw [Int.toNat_natCast, List.getD_eq_getElem?_getD, List.getElem?_eq_getElem h]
  rfl
theorem same_self (l : List Int) (h : l.length ≤ 1000) : portholeref01_Same.f 2000 l l = some true := by
  unfold portholeref01_Same.f
  rw [if_pos rfl]
  have key : ∀ (m k j : Nat), l.length - j = m → m < k → portholeref01_Same.l0 k l l (j : Int) = some true := by
    intro m
    induction m with
    | zero =>
      intro k j hm hk
      obtain ⟨k, rfl⟩ : ∃ q, k = q + 1 := ⟨k - 1, by omega⟩
      simp only [portholeref01_Same.l0]
      rw [if_neg (by omega)]
    | succ m ih =>
      intro k j hm hk
      obtain ⟨k, rfl⟩ : ∃ q, k = q + 1 := ⟨k - 1, by omega⟩
      simp only [portholeref01_Same.l0]
      rw [if_pos (by omega), if_pos (by omega), if_pos (by omega), show wrap64 ((j : Int) + 1) = ((j + 1 : Nat) : Int) from by unfold wrap64; omega]
      simp only [if_true]
      exact ih k (j + 1) (by omega) (by omega)
  exact key l.length 2000 0 (by omega) (by omega)
theorem same_calls (A : Option Addr) (c tl : Nat) (T : List Int) (A1 : Option Addr) (c1 : Nat) (w : World) (htl : T.length = tl) (hb : tl ≤ 1000) (hc : tl ≤ c) (h1 : Kd.C (Kd.int .i64) w A T.length T) (h2 : Kd.C (Kd.int .i64) w A1 T.length T) (hc1 : T.length ≤ c1) :
    Calls Try.prog 36 #[.slice A tl c, .slice A1 T.length c1] w fun e w' => e = .returned (.bool true) ∧ Drawn0 w w' := by
  subst htl
  exact portholeref01_Same.calls 2000 A c T A1 c1 T true w h1 hc h2 hc1 (same_self T hb)
theorem marks_next {Ds : List Nat} {D N : Nat} {wr w2 w4 X Y : World} (hn : Ds.Nodup) (hd : ∀ E ∈ Ds, w2.heap.size ≤ E ∧ wr.heap[E]? = some (.deferred (some []))) (hD : w4.heap.size ≤ D) (hK : X.heap[D]? = some (.deferred (some []))) (hX : Below wr.heap.size wr X) (hY : Below X.heap.size X Y) (hR : Below N w2 wr) (h4 : wr.heap.size < w4.heap.size) :
    (D :: Ds).Nodup ∧ ∀ E ∈ D :: Ds, w2.heap.size ≤ E ∧ Y.heap[E]? = some (.deferred (some [])) := by
  refine ⟨List.nodup_cons.2 ⟨fun h => ?_, hn⟩, fun E hE => ?_⟩
  · have := blk_lt (hd D h).2; omega
  · rcases List.mem_cons.1 hE with rfl | hE
    · exact ⟨by have := hR.size; omega, blk_below hK hY⟩
    · exact ⟨(hd E hE).1, blk_below (blk_below (hd E hE).2 hX) hY⟩
theorem leaves_marks {P : Program} {F : Fence} {n : Nat} {fn : Func} {tmps : Array Value} {v : Value} {W : World} (hres : ∀ w, (results fn tmps).run P w = .ok v w) : ∀ (Ds : List Nat) (w : World), Ds.Nodup → (∀ D ∈ Ds, W.heap.size ≤ D ∧ w.heap[D]? = some (.deferred (some []))) → Below W.heap.size W w →
    LeavesInM F n P fn tmps (fun e w' => e = .returned v ∧ Below W.heap.size W w') (Ds.map fun D => { target := .collected D, args := #[] }) .returning w
  | [], w, _, _, hb => ⟨_, hres w, rfl, hb⟩
  | D :: Ds, w, hn, hD, hb => by
    have h0 := hD D (by simp)
    refine ⟨by simp, .inl ⟨D, _, rfl, run_takeDeferred h0.2, leaves_marks hres Ds _ (List.nodup_cons.1 hn).2 (fun E hE => ?_) ?_⟩⟩
    · have hne : E ≠ D := fun e => (List.nodup_cons.1 hn).1 (e ▸ hE)
      exact ⟨(hD E (List.mem_cons_of_mem _ hE)).1, (World.putObj_heap_other hne).trans (hD E (List.mem_cons_of_mem _ hE)).2⟩
    · exact hb.trans ((Below.refl _ w).grown (grownBy_putObj' w D _) hb.size (fun k e => by cases e; exact h0.1))
/-- What is known at every round of the range. -/
def FI (bm bo B many : Nat) (wr : World) (pre : List Int) (X : World) : Prop :=
  (B ≤ X.heap.size ∧ wr.heap.size ≤ bm ∧ wr.heap.size ≤ bo ∧ bm < B ∧ bo < B ∧ bm ≠ bo) ∧ Below wr.heap.size wr X ∧ X.heap[bm]? = some (.cells #[.int .i64 (many : Int)] 3 (0, 0)) ∧ ∃ v, X.heap[bo]? = some (.cells #[v] 32 (0, 0)) ∧ Kd.R (Kd.int .i64) 3 X B (fun _ => True) v pre ∧ pre.length ≤ many
theorem FI.own {bm bo B many : Nat} {wr : World} : OwnFrom B (FI bm bo B many wr) := by
  rintro pre X Y row ⟨⟨h1, h2, h3, h4, h5, h6⟩, h7, h8, v, h9, h10, h11⟩ hg hr
  have hsz := hg.size
  refine ⟨⟨by omega, h2, h3, h4, h5, h6⟩, h7.trans ⟨hg.os, hg.tape, hg.output, hg.size, fun k hk => hg.block k (by omega) (fun e => by have := (hr k e.symm).1; omega)⟩, (hg.block bm (blk_lt h8) (fun e => by have := (hr _ e.symm).1; omega)).trans h8, v, (hg.block bo (blk_lt h9) (fun e => by have := (hr _ e.symm).1; omega)).trans h9, ?_, h11⟩
  refine Kd.R_mono (Kd.R_step (Kd.R_bound h10) (fun k hk hlt => hg.block k hlt (fun e => ?_))) (fun _ _ => trivial)
  obtain ⟨_, o, ho, hc⟩ := hr k e.symm
  obtain ⟨_, _, cells, hcl⟩ := hk.2.2.2
  rw [hcl] at ho; cases ho; cases hc
def FX (bm bo B many : Nat) (wr : World) (c : Code) (pre : List Int) (X : World) : Prop := c = .exit 2 ∧ FI bm bo B many wr pre.dropLast X ∧ pre.dropLast.length = many
theorem FX.own {bm bo B many : Nat} {wr : World} (c : Code) : OwnFrom B (FX bm bo B many wr c) := by
  rintro pre X Y row ⟨h1, h2, h3⟩ hg hr
  exact ⟨h1, FI.own _ X Y row h2 hg hr, h3⟩
/-- append(out, t). -/
theorem int_push {F : Fence} {nF : Nat} {ops : Array Oper} {rest : List Oper} {o : Oper} {A : Act} {Q : Exit → Act → World → Prop} {bm bo B many N0 : Nat} {wr X : World} {pre : List Int} (t : Int) (ad : Option Addr) (c : Nat) (hI : FI bm bo B many wr pre X) (hv : X.cell? ⟨bo, 0, none⟩ = some (.slice ad pre.length c)) (hlt : pre.length < many) (hm : many ≤ 100) (hN : N0 ≤ wr.heap.size) (s z : Operand)
    (hgd : o.guard = none) (ho : o.op = .call { callee := .builtin .append, args := #[s, z], argTypes := #[32, 32] }) (hs : A.eval s = .slice ad pre.length c) (hz : A.eval z = .slice (some ⟨X.heap.size, 0, none⟩) 1 1)
    (h : ∀ g c1 w1 v1, v1 = .slice (some ⟨g, 0, none⟩) (pre.length + 1) c1 → w1.cell? ⟨bo, 0, none⟩ = some (.slice ad pre.length c) → w1.frozen? ⟨bo, 0, none⟩ = false → (FI bm bo B many wr (pre ++ [t]) (w1.setCell ⟨bo, 0, none⟩ v1) ∧ KeepsOthers X (w1.setCell ⟨bo, 0, none⟩ v1) ∧ KpT N0 B bo X (w1.setCell ⟨bo, 0, none⟩ v1)) → wpListIn F nF Try.prog ops Q rest (A.put o.dst v1) w1) :
    wpListIn F nF Try.prog ops Q (o :: rest) A (X.alloc (.cells #[.int .i64 t] 3)) := by
  obtain ⟨⟨h1, h2, h3, h4, h5, h6⟩, h7, h8, v, h9, h10, h11⟩ := hI
  obtain rfl : v = .slice ad pre.length c := by
    have := (blk_cell h9 0).symm.trans hv
    simpa using this
  have hvT := Kd.R_typed h10
  have hvB := Kd.R_base h10
  obtain ⟨h0, inner, hown, hr⟩ := h10
  obtain ⟨i, hi, hi0, hi1, hi2⟩ : ∃ i, Try.prog.info? 3 = some i ∧ i.zero = some (.int .i64 0) ∧ i.size = 1 ∧ i.bytes = 8 := ⟨_, rfl, rfl, rfl, rfl⟩
  refine wpListIn_append_own_at _ hgd s z 32 ho B 3 i (.int .i64 0) 1 8 Try.underlying32 hi hi0 hi1 hi2 rfl (by decide) (.slice ad pre.length c) pre.length inner hs (hown.alloc _) ⟨X.heap.size, 0, none⟩ 1 1 [.int .i64 t] hz rfl ?_ ?_ (by simp only [maxLen]; omega) (by omega) (by simp; omega) ?_
  · intro j u hu
    cases j with
    | zero => simp at hu; subst hu; exact (blk_cell (blk_new _ _) 0).trans rfl
    | succ j => simp at hu
  · intro u hu; simp at hu; subst hu; rfl
  · intro v1 w1 ho1 hg1 _ hat1
    have hgA : X.grownBy (X.alloc (.cells #[.int .i64 t] 3)) (Value.slice ad pre.length c).ownBlock := World.grownBy_alloc X _ _
    have hgW := hgA.trans hg1
    have hat : v1.ownBlock = (Value.slice ad pre.length c).ownBlock ∨ ∃ b, v1.ownBlock = some b ∧ X.heap.size ≤ b := by
      rcases hat1 with e | e
      · exact .inl e
      · exact .inr ⟨_, e, by simp⟩
    have hlow : ∀ k, k < B → k ≠ bo → k < X.heap.size → (w1.setCell ⟨bo, 0, none⟩ v1).heap[k]? = X.heap[k]? := fun k hk hkb hlt => (Below.heap_setCell _ _ _ _ hkb).trans (hgW.block k hlt (fun e => by have := hvB k e.symm; omega))
    have k3 : w1.heap[bo]? = some (.cells #[.slice ad pre.length c] 32 (0, 0)) := (hgW.block bo (blk_lt h9) (fun e => by have := hvB _ e.symm; omega)).trans h9
    have hR := Kd.R_appended (d := Kd.int .i64) (okp := fun _ => False) (ok := fun _ => True) (p := t) (cs := [.int .i64 t]) h0 hr rfl (fun _ h => h.elim) (fun _ _ => trivial) ho1 hgW hat
    obtain ⟨g, c1, hv1, _, _, _⟩ := Kd.R_form hR (by simp)
    rw [List.length_append, List.length_singleton] at hv1
    have hbel : ∀ N, N ≤ wr.heap.size → Below N X (w1.setCell ⟨bo, 0, none⟩ v1) := fun N hN => (Below.mk hgW.os hgW.tape hgW.output hgW.size (fun k hk => hgW.block k (by have := h7.size; omega) (fun e => by have := hvB k e.symm; omega))).setCell (p := ⟨bo, 0, none⟩) (by show N ≤ bo; omega) v1
    have hsz := hgW.size
    refine h g c1 w1 v1 hv1 ((blk_cell k3 0).trans rfl) (blk_frozen k3 0) ⟨⟨⟨by simp; omega, h2, h3, h4, h5, h6⟩, h7.trans (hbel _ (Nat.le_refl _)), (hlow bm h4 h6 (blk_lt h8)).trans h8, v1, by simpa using blk_set k3 0 v1, ?_, by simp; omega⟩, ?_, hbel _ hN, hlow⟩
    · exact Kd.R_mono (Kd.R_far (Kd.R_bound hR) (p := ⟨bo, 0, none⟩) (fun k hk => by have := hk.2.1; show k ≠ bo; omega) v1) (fun k hk => trivial)
    · refine (KeepsOthers.of_grownBy hgW fun j ob ej hj => ?_).trans (KeepsOthers.setCell _ _ _)
      obtain ⟨cs, hc⟩ := hvT j ej
      rw [hc] at hj; cases hj; rfl
set_option maxRecDepth 100000 in
set_option maxHeartbeats 4000000 in
theorem FrameTicks_in (W : World) (L : Int) (A : Option Addr) (c : Nat) (ws : List S46) (hc : ws.length ≤ c) (hr : Kd.C k46 W A ws.length ws) (part start : Int) :
    CallsIn Fence.wide 3 Try.prog 11 #[.agg #[.int .i64 L, .slice A ws.length c], .int .i64 part, .int .i64 start] W fun e w' => e = .returned (.bool true) ∧ Below W.heap.size W w' := by
  have HC := Aside0.mk hc
  have HR := Aside0.mk hr
  have hmx := Kd.C_max hr
  clear hc hr
  obtain ⟨len, hlen⟩ : ∃ len, ws.length = len := ⟨_, rfl⟩
  have HLE := Aside0.mk hlen
  rw [hlen] at HC HR hmx ⊢
  clear hlen
  refine callsIn_of_wp_marks Try.func11 rfl trivial ?_ rfl
  simp only [Try.ntmps11, List.size_toArray, List.length_cons, List.length_nil, Nat.reduceAdd, Nat.reduceSub, Array.replicate_succ, Array.replicate_zero, List.push_toArray, List.append_toArray, List.nil_append, List.cons_append]
  have hb0 : Below W.heap.size W (W.alloc (.cells #[.int .i64 L, .slice A len c] 40)) := below_alloc (Below.refl _ _) _
  have hfb := blk_new W (.cells #[.int .i64 L, .slice A len c] 40)
  gi_wp2_with fail
  refine ⟨trivial, (callsIn_wide.2 (portholelaw09_wakes.calls 50 true _ (wakes_eq 50 (by omega)))).mono ?_⟩
  rintro e w1 ⟨rfl, hb⟩
  have hfb1 := blk_below hfb hb
  have hc1 : w1.cell? ⟨W.heap.size, 0, none⟩ = some (.int .i64 L) := (blk_cell hfb1 0).trans rfl
  have hc2 : w1.cell? ⟨W.heap.size, 1, none⟩ = some (.slice A len c) := (blk_cell hfb1 1).trans rfl
  have HB := Aside0.mk (hb0.trans (hb.mono hb0.size))
  have HF := Aside0.mk hfb1
  clear hb hb0 hfb hfb1
  by_cases hbig : 100 < len
  · gi_wp2
    exact ⟨_, results_tmp rfl _ _ _, rfl, HB.out⟩
  · have hdb : decide ((100 : Int) < (len : Int)) = false := decide_eq_false (by omega)
    have hL := blk_new w1 (.cells #[.int .i64 0, .int .i64 1, .int .i64 7] 3)
    have hB2 := HB.out.trans ((below_alloc (Below.refl _ w1) (.cells #[.int .i64 0, .int .i64 1, .int .i64 7] 3)).mono HB.out.size)
    have hF2 := blk_alloc HF.out (.cells #[.int .i64 0, .int .i64 1, .int .i64 7] 3)
    have hs2 : (w1.alloc (.cells #[.int .i64 0, .int .i64 1, .int .i64 7] 3)).heap.size = w1.heap.size + 1 := by simp
    have hW1 : W.heap.size < w1.heap.size := blk_lt HF.out
    gi_wp2
    generalize w1.alloc (.cells #[.int .i64 0, .int .i64 1, .int .i64 7] 3) = w2 at *
    have HL2 := Aside0.mk hL
    have HB2 := Aside0.mk hB2
    have HF2 := Aside0.mk hF2
    clear hL hB2 hF2 hc1 hc2 hdb
    refine wpIn_loop (fun a w => ∃ (i : Nat) (Ds : List Nat) (u8 u9 u10 u11 u21 u22 u23 u24 u25 u26 u27 u28 u29 u30 u31 u32 u33 u34 u35 u36 u37 u38 u39 u40 u41 u42 u43 u44 u45 u46 u47 u48 u49 u50 u51 u52 : Value), i ≤ 3 ∧ a = { tmps := #[.agg #[.int .i64 L, .slice A len c], .int .i64 part, .int .i64 start, .pointer (some ⟨W.heap.size, 0, none⟩), undef, undef, .bool false, undef, u8, u9, u10, u11, .bool true, .bool false, .pointer (some ⟨W.heap.size, 1, none⟩), .slice A len c, .int .i64 (len : Int), .bool false, .slice (some ⟨w1.heap.size, 0, none⟩) 3 3, .int .i64 3, .int .i64 (i : Int), u21, u22, u23, u24, u25, u26, u27, u28, u29, u30, u31, u32, u33, u34, u35, u36, u37, u38, u39, u40, u41, u42, u43, u44, u45, u46, u47, u48, u49, u50, u51, u52], defers := Ds.map fun D => { target := .collected D, args := #[] } } ∧ Aside0 Ds.Nodup ∧ Aside0 (∀ D ∈ Ds, w2.heap.size ≤ D ∧ w.heap[D]? = some (.deferred (some []))) ∧ Aside0 (Below w2.heap.size w2 w)) (fun a _ => 3 - (intOf (a.tmps.getD 20 undef)).toNat) ⟨0, [], _, _, _, _, _, _, _, _, _, _, _, _, _, _, _, _, _, _, _, _, _, _, _, _, _, _, _, _, _, _, _, _, _, _, _, _, by omega, rfl, ⟨List.nodup_nil⟩, ⟨fun D h => by simp at h⟩, ⟨Below.refl _ _⟩⟩ ?_
    rintro a wr ⟨i, Ds, u8, u9, u10, u11, u21, u22, u23, u24, u25, u26, u27, u28, u29, u30, u31, u32, u33, u34, u35, u36, u37, u38, u39, u40, u41, u42, u43, u44, u45, u46, u47, u48, u49, u50, u51, u52, hi, rfl, HND, HDS, HBR⟩
    by_cases hlt : i < 3
    · obtain ⟨many, hm7, hcell⟩ : ∃ many : Nat, many ≤ 7 ∧ ∀ w', Below w2.heap.size w2 w' → w'.cell? ⟨w1.heap.size, i, none⟩ = some (.int .i64 (many : Int)) := by
        obtain rfl | rfl | rfl : i = 0 ∨ i = 1 ∨ i = 2 := by omega
        · exact ⟨0, by omega, fun w' hb => (blk_cell (blk_below HL2.out hb) 0).trans rfl⟩
        · exact ⟨1, by omega, fun w' hb => (blk_cell (blk_below HL2.out hb) 1).trans rfl⟩
        · exact ⟨7, by omega, fun w' hb => (blk_cell (blk_below HL2.out hb) 2).trans rfl⟩
      have hcm := hcell wr HBR.out
      have hdi : decide ((i : Int) < 3) = true := decide_eq_true (by omega)
      have hmz : (0 : Int) ≤ (many : Int) := by omega
      have hb3 : Below wr.heap.size wr ((wr.alloc (.cells #[.int .i64 (many : Int)] 3)).alloc (.cells #[.slice none 0 0] 32)) := below_alloc (below_alloc (Below.refl _ _) _) _
      have hfr := blk_below (blk_below HF2.out HBR.out) hb3
      have hc1 := (blk_cell hfr 0).trans rfl
      have hc2 := (blk_cell hfr 1).trans rfl
      have HFR := Aside0.mk hfr
      have HB3 := Aside0.mk hb3
      clear hfr hb3 hcell
      gi_wp2_with fail
      refine ⟨trivial, (callsIn_wide.2 (ticks_calls L A len c part start _)).mono ?_⟩
      rintro e w4 ⟨rfl, hw4⟩
      have hsz3 : ((wr.alloc (.cells #[.int .i64 (many : Int)] 3)).alloc (.cells #[.slice none 0 0] 32)).heap.size = wr.heap.size + 1 + 1 := by simp
      have hbm := blk_alloc (blk_new wr (.cells #[.int .i64 (many : Int)] 3)) (.cells #[.slice none 0 0] 32)
      have hbo := blk_new (wr.alloc (.cells #[.int .i64 (many : Int)] 3)) (.cells #[.slice none 0 0] 32)
      rw [World.size_alloc] at hbo
      rw [hsz3]
      generalize (wr.alloc (.cells #[.int .i64 (many : Int)] 3)).alloc (.cells #[.slice none 0 0] 32) = w3 at *
      have hb34 := below_alloc (below_alloc (below_alloc (Below.refl _ w3) (.cells #[.int .i64 L, .slice A len c] 40)) (.cells #[.int .i64 part] 3)) (.cells #[.int .i64 start] 3)
      have hgf := blk_alloc (blk_alloc (blk_new w3 (.cells #[.int .i64 L, .slice A len c] 40)) (.cells #[.int .i64 part] 3)) (.cells #[.int .i64 start] 3)
      have hgp := blk_alloc (blk_new (w3.alloc (.cells #[.int .i64 L, .slice A len c] 40)) (.cells #[.int .i64 part] 3)) (.cells #[.int .i64 start] 3)
      have hgs := blk_new ((w3.alloc (.cells #[.int .i64 L, .slice A len c] 40)).alloc (.cells #[.int .i64 part] 3)) (.cells #[.int .i64 start] 3)
      rw [← hw4] at hb34 hgf hgp hgs
      simp only [World.size_alloc, hsz3] at hgf hgp hgs
      have hsz4 : w4.heap.size = wr.heap.size + 5 := by rw [hw4]; simp only [World.size_alloc, hsz3]
      clear hw4
      have hWr : W.heap.size < w2.heap.size := by omega
      have hrr := HBR.out.size
      have hTB : TBox L A c ws part start W w4.heap.size (wr.heap.size + 1) (wr.heap.size + 1 + 1) (wr.heap.size + 1 + 1 + 1) (wr.heap.size + 1 + 1 + 1 + 1) w4 :=
        ⟨by omega, by omega, by omega, by omega, by omega, by omega, by rw [HLE.out]; exact hgf, hgp, hgs, (HB2.out.trans ((HBR.out.trans ((HB3.out.trans (hb34.mono HB3.out.size)).mono HBR.out.size)).mono HB2.out.size))⟩
      have hFI : FI wr.heap.size (wr.heap.size + 1) w4.heap.size many wr [] w4 := ⟨⟨Nat.le_refl _, Nat.le_refl _, by omega, by omega, by omega, by omega⟩, HB3.out.trans (hb34.mono HB3.out.size), blk_below hbm hb34, _, blk_below hbo hb34, Kd.R_nil _ _ _ _ _, Nat.zero_le _⟩
      have hseq := ticks_stops L A c ws part start W w4.heap.size (wr.heap.size + 1) (wr.heap.size + 1 + 1) (wr.heap.size + 1 + 1 + 1) (wr.heap.size + 1 + 1 + 1 + 1) 2 w4 (by rw [HLE.out]; exact HC.out) (by rw [HLE.out]; exact HR.out) hTB
      gi_wp2
      refine wpIn_rangeFunc_ownF rfl (by decide) (gf := 54) (lb := #[.pointer (some ⟨wr.heap.size + 1 + 1, 0, none⟩), .pointer (some ⟨wr.heap.size + 1 + 1 + 1, 0, none⟩), .pointer (some ⟨wr.heap.size + 1 + 1 + 1 + 1, 0, none⟩)]) rfl trivial (enters_of Try.func54 (by kernel_rfl) rfl) hseq KpT.trans (KpT.put (by omega) (Nat.le_refl _)) (Below.refl _ _) (fun _ => rfl)
        (FI wr.heap.size (wr.heap.size + 1) w4.heap.size many wr) (FX wr.heap.size (wr.heap.size + 1) w4.heap.size many wr) FI.own FX.own hFI
        (fun x => { tmps := #[.agg #[.int .i64 L, .slice A len c], .int .i64 part, .int .i64 start, .pointer (some ⟨W.heap.size, 0, none⟩), undef, undef, .bool false, undef, .pointer (some ⟨wr.heap.size, 0, none⟩), .pointer (some ⟨wr.heap.size + 1, 0, none⟩), .func (.func 54) #[] #[.pointer (some ⟨wr.heap.size + 1 + 1, 0, none⟩), .pointer (some ⟨wr.heap.size + 1 + 1 + 1, 0, none⟩), .pointer (some ⟨wr.heap.size + 1 + 1 + 1 + 1, 0, none⟩)], .int .i64 x, .bool true, .bool false, .pointer (some ⟨W.heap.size, 1, none⟩), .slice A len c, .int .i64 (len : Int), .bool false, .slice (some ⟨w1.heap.size, 0, none⟩) 3 3, .int .i64 3, .int .i64 (i : Int), .bool true, .pointer (some ⟨w1.heap.size, i, none⟩), .int .i64 (many : Int), .agg #[.int .i64 L, .slice A len c], .int .i64 part, .int .i64 start, .func (.func 54) #[] #[.pointer (some ⟨wr.heap.size + 1 + 1, 0, none⟩), .pointer (some ⟨wr.heap.size + 1 + 1 + 1, 0, none⟩), .pointer (some ⟨wr.heap.size + 1 + 1 + 1 + 1, 0, none⟩)], .func (.func 54) #[] #[.pointer (some ⟨wr.heap.size + 1 + 1, 0, none⟩), .pointer (some ⟨wr.heap.size + 1 + 1 + 1, 0, none⟩), .pointer (some ⟨wr.heap.size + 1 + 1 + 1 + 1, 0, none⟩)], .bool true, .func (.func 54) #[] #[.pointer (some ⟨wr.heap.size + 1 + 1, 0, none⟩), .pointer (some ⟨wr.heap.size + 1 + 1 + 1, 0, none⟩), .pointer (some ⟨wr.heap.size + 1 + 1 + 1 + 1, 0, none⟩)], .int .i64 x, u32, u33, u34, u35, u36, u37, u38, u39, u40, u41, u42, u43, u44, u45, u46, u47, u48, u49, u50, u51, u52], defers := [] }) ?assign ?body ?done ?stop
      case assign =>
        intro l x X K hK
        gi_wp2
        exact hK
      case body =>
        rintro l pre x X hI hlen
        have HI := Aside0.mk hI
        obtain ⟨h1, h7, h8, v, h9, h10, h11⟩ := hI
        obtain ⟨A', c', rfl⟩ := Kd.R_slice h10
        have hd1 : X.cell? ⟨wr.heap.size + 1, 0, none⟩ = some (.slice A' pre.length c') := (blk_cell h9 0).trans rfl
        have hd2 : X.cell? ⟨wr.heap.size, 0, none⟩ = some (.int .i64 (many : Int)) := (blk_cell h8 0).trans rfl
        clear h7 h8 h9 h10 hseq hTB hFI hgf hgp hgs hb34 hbm hbo hc1 hc2 hcm
        by_cases hge : (many : Int) ≤ (pre.length : Int)
        · gi_wp2
          refine ⟨KeepsOthers.refl _, rfl, by rw [List.dropLast_concat]; exact HI.out, by rw [List.dropLast_concat]; omega⟩
        · gi_wp2_with (gi_at_builtin; refine int_push (N0 := W.heap.size) x A' c' HI.out hd1 (by omega) (by omega) (by omega) _ _ rfl rfl rfl rfl ?_; rintro g c1 w5 _ rfl hcc hff hx; have HP := Aside0.mk hx; clear hx)
          have hP := HP.out
          rw [hsz4] at hP
          exact ⟨hP.2.1, hP.2.2, hP.1⟩
      case done =>
        rintro D xs X hD hxs hI hK
        have hfin : ∃ v, X.heap[wr.heap.size + 1]? = some (.cells #[v] 32 (0, 0)) ∧ Kd.R (Kd.int .i64) 3 X w4.heap.size (fun _ => True) v ((allT L ws part start).take many) ∧ Below wr.heap.size wr X ∧ X.heap[wr.heap.size]? = some (.cells #[.int .i64 (many : Int)] 3 (0, 0)) := by
          obtain ⟨h1, h7, h8, v, h9, h10, h11⟩ := hI
          exact ⟨v, h9, by rw [List.take_of_length_le (by rw [← hxs]; exact h11), ← hxs]; exact h10, h7, h8⟩
        clear hI hxs
        obtain ⟨v, hbo5, hR5, hb5, hbm5⟩ := hfin
        obtain ⟨A', c', rfl⟩ := Kd.R_slice hR5
        have hd1 : X.cell? ⟨wr.heap.size + 1, 0, none⟩ = some (.slice A' ((allT L ws part start).take many).length c') := (blk_cell hbo5 0).trans rfl
        have hd2 : X.cell? ⟨wr.heap.size, 0, none⟩ = some (.int .i64 (many : Int)) := (blk_cell hbm5 0).trans rfl
        have hd0 := blk_below (blk_below HF2.out HBR.out) hb5
        have hd3 : X.cell? ⟨W.heap.size, 0, none⟩ = some (.int .i64 L) := (blk_cell hd0 0).trans rfl
        have hd4 : X.cell? ⟨W.heap.size, 1, none⟩ = some (.slice A len c) := (blk_cell hd0 1).trans rfl
        have HRC := Aside0.mk (rticks_calls L A c len ws part start many (by omega) W HLE.out HC.out HR.out)
        have HB5 := Aside0.mk hb5
        have HR5 := Aside0.mk hR5
        have HK := Aside0.mk hK
        clear hseq hTB hFI hgf hgp hgs hb34 hbm hbo hc1 hc2 hcm hb5 hR5 hK hd0 hbo5 hbm5
        have hbnd : ((allT L ws part start).take many).length ≤ 100 := by rw [List.length_take]; omega
        generalize (allT L ws part start).take many = T at *
        obtain ⟨tl, htl⟩ : ∃ tl, T.length = tl := ⟨_, rfl⟩
        have HTL := Aside0.mk htl
        rw [htl] at hd1 HR5 hbnd
        clear htl
        have HBX := Aside0.mk (HB2.out.trans ((HBR.out.trans (HB5.out.mono HBR.out.size)).mono HB2.out.size))
        have HSC := Aside0.mk (fun (w : World) (A1 : Option Addr) (c1 : Nat) (h1 : Kd.C (Kd.int .i64) w A' T.length T) (h2 : Kd.C (Kd.int .i64) w A1 T.length T) (hc1 : T.length ≤ c1) => same_calls A' c' tl T A1 c1 w HTL.out (by omega) (Kd.R_reads' HR5.out).2.1 h1 h2 hc1)
        by_cases hfrom : start < 1099511626776
        · have hdf : decide (start < 1099511626776) = true := decide_eq_true hfrom
          gi_wp2_with fail
          refine wpIn_wide.2 ?_
          go_region_held3 (fun w' => w'.cell? ⟨wr.heap.size + 1, 0, none⟩ = some (.slice A' tl c') ∧ w'.cell? ⟨wr.heap.size, 0, none⟩ = some (.int .i64 (many : Int)) ∧ w'.cell? ⟨W.heap.size, 0, none⟩ = some (.int .i64 L) ∧ w'.cell? ⟨W.heap.size, 1, none⟩ = some (.slice A len c)) (first | exact ⟨hd1, hd2, hd3, hd4⟩ | exact ⟨he1, he2, he3, he4⟩ | exact ⟨hg1, hg2, hg3, hg4⟩ | go_keep)
            (first | (go_at_call 37; refine (HRC.out _ (by exact below_drew1 HBX.out)).mono ?_; rintro e w6 ⟨vt, rfl, hrv, hbv⟩; obtain ⟨At, ct, rfl⟩ := Kd.R_slice hrv; have he1 := pw_cell_below hbv hd1; have he2 := pw_cell_below hbv hd2; have he3 := pw_cell_below hbv hd3; have he4 := pw_cell_below hbv hd4; have HRV := Aside0.mk hrv; have HBV := Aside0.mk hbv; clear hrv hbv) | (go_at_call 36; refine (HSC.out _ _ _ (Kd.R_reads' (Kd.R_below (Kd.R_below HR5.out (below_drew1 (Below.refl _ _))) HBV.out)).2.2 (Kd.R_reads' HRV.out).2.2 (Kd.R_reads' HRV.out).2.1).mono ?_; rintro e w7 ⟨rfl, hd7⟩; have HB7 := Aside0.mk ((below_drew1 (Below.refl _ X)).trans ((HBV.out.trans (hd7.below.mono HBV.out.size)).mono (Nat.le_refl _))); have hg1 := pw_cell_below hd7.below he1; have hg2 := pw_cell_below hd7.below he2; have hg3 := pw_cell_below hd7.below he3; have hg4 := pw_cell_below hd7.below he4; clear hd7))
          all_goals
            gi_wp2
            refine ⟨?_, ?measure⟩
            case measure => simp [intOf]; omega
            obtain ⟨hm1, hm2⟩ := marks_next HND.out HDS.out hD HK.out HB5.out HB7.out HBR.out (by omega)
            refine ⟨i + 1, D :: Ds, ?_⟩
            (repeat apply Exists.intro)
            exact ⟨by omega, rfl, ⟨hm1⟩, ⟨hm2⟩, ⟨HBR.out.trans ((HB5.out.trans (HB7.out.mono HB5.out.size)).mono HBR.out.size)⟩⟩
        · have hdf : decide (start < 1099511626776) = false := decide_eq_false hfrom
          gi_wp2_with fail
          refine wpIn_wide.2 ?_
          go_quiet (fail)
          have HB7 := Aside0.mk (pw_below_drewN (Below.refl X.heap.size X) nq)
          gi_wp2
          refine ⟨?_, ?measure⟩
          case measure => simp [intOf]; omega
          obtain ⟨hm1, hm2⟩ := marks_next HND.out HDS.out hD HK.out HB5.out HB7.out HBR.out (by omega)
          refine ⟨i + 1, D :: Ds, ?_⟩
          (repeat apply Exists.intro)
          exact ⟨by omega, rfl, ⟨hm1⟩, ⟨hm2⟩, ⟨HBR.out.trans ((HB5.out.trans (HB7.out.mono HB5.out.size)).mono HBR.out.size)⟩⟩
      case stop =>
        rintro D c pre X hD ⟨r, hpre⟩ ⟨rfl, hI, hpl⟩ hK
        have hfin : ∃ v, X.heap[wr.heap.size + 1]? = some (.cells #[v] 32 (0, 0)) ∧ Kd.R (Kd.int .i64) 3 X w4.heap.size (fun _ => True) v ((allT L ws part start).take many) ∧ Below wr.heap.size wr X ∧ X.heap[wr.heap.size]? = some (.cells #[.int .i64 (many : Int)] 3 (0, 0)) := by
          obtain ⟨h1, h7, h8, v, h9, h10, h11⟩ := hI
          refine ⟨v, h9, ?_, h7, h8⟩
          rw [← hpre, ← hpl, List.dropLast_eq_take, List.length_take, List.take_append_of_le_length (by omega), show min (pre.length - 1) pre.length = pre.length - 1 by omega, ← List.dropLast_eq_take]
          exact h10
        clear hI hpre hpl
        obtain ⟨v, hbo5, hR5, hb5, hbm5⟩ := hfin
        obtain ⟨A', c', rfl⟩ := Kd.R_slice hR5
        have hd1 : X.cell? ⟨wr.heap.size + 1, 0, none⟩ = some (.slice A' ((allT L ws part start).take many).length c') := (blk_cell hbo5 0).trans rfl
        have hd2 : X.cell? ⟨wr.heap.size, 0, none⟩ = some (.int .i64 (many : Int)) := (blk_cell hbm5 0).trans rfl
        have hd0 := blk_below (blk_below HF2.out HBR.out) hb5
        have hd3 : X.cell? ⟨W.heap.size, 0, none⟩ = some (.int .i64 L) := (blk_cell hd0 0).trans rfl
        have hd4 : X.cell? ⟨W.heap.size, 1, none⟩ = some (.slice A len c) := (blk_cell hd0 1).trans rfl
        have HRC := Aside0.mk (rticks_calls L A c len ws part start many (by omega) W HLE.out HC.out HR.out)
        have HB5 := Aside0.mk hb5
        have HR5 := Aside0.mk hR5
        have HK := Aside0.mk hK
        clear hseq hTB hFI hgf hgp hgs hb34 hbm hbo hc1 hc2 hcm hb5 hR5 hK hd0 hbo5 hbm5
        have hbnd : ((allT L ws part start).take many).length ≤ 100 := by rw [List.length_take]; omega
        generalize (allT L ws part start).take many = T at *
        obtain ⟨tl, htl⟩ : ∃ tl, T.length = tl := ⟨_, rfl⟩
        have HTL := Aside0.mk htl
        rw [htl] at hd1 HR5 hbnd
        clear htl
        have HBX := Aside0.mk (HB2.out.trans ((HBR.out.trans (HB5.out.mono HBR.out.size)).mono HB2.out.size))
        have HSC := Aside0.mk (fun (w : World) (A1 : Option Addr) (c1 : Nat) (h1 : Kd.C (Kd.int .i64) w A' T.length T) (h2 : Kd.C (Kd.int .i64) w A1 T.length T) (hc1 : T.length ≤ c1) => same_calls A' c' tl T A1 c1 w HTL.out (by omega) (Kd.R_reads' HR5.out).2.1 h1 h2 hc1)
        by_cases hfrom : start < 1099511626776
        · have hdf : decide (start < 1099511626776) = true := decide_eq_true hfrom
          gi_wp2_with fail
          refine wpIn_wide.2 ?_
          go_region_held3 (fun w' => w'.cell? ⟨wr.heap.size + 1, 0, none⟩ = some (.slice A' tl c') ∧ w'.cell? ⟨wr.heap.size, 0, none⟩ = some (.int .i64 (many : Int)) ∧ w'.cell? ⟨W.heap.size, 0, none⟩ = some (.int .i64 L) ∧ w'.cell? ⟨W.heap.size, 1, none⟩ = some (.slice A len c)) (first | exact ⟨hd1, hd2, hd3, hd4⟩ | exact ⟨he1, he2, he3, he4⟩ | exact ⟨hg1, hg2, hg3, hg4⟩ | go_keep)
            (first | (go_at_call 37; refine (HRC.out _ (by exact below_drew1 HBX.out)).mono ?_; rintro e w6 ⟨vt, rfl, hrv, hbv⟩; obtain ⟨At, ct, rfl⟩ := Kd.R_slice hrv; have he1 := pw_cell_below hbv hd1; have he2 := pw_cell_below hbv hd2; have he3 := pw_cell_below hbv hd3; have he4 := pw_cell_below hbv hd4; have HRV := Aside0.mk hrv; have HBV := Aside0.mk hbv; clear hrv hbv) | (go_at_call 36; refine (HSC.out _ _ _ (Kd.R_reads' (Kd.R_below (Kd.R_below HR5.out (below_drew1 (Below.refl _ _))) HBV.out)).2.2 (Kd.R_reads' HRV.out).2.2 (Kd.R_reads' HRV.out).2.1).mono ?_; rintro e w7 ⟨rfl, hd7⟩; have HB7 := Aside0.mk ((below_drew1 (Below.refl _ X)).trans ((HBV.out.trans (hd7.below.mono HBV.out.size)).mono (Nat.le_refl _))); have hg1 := pw_cell_below hd7.below he1; have hg2 := pw_cell_below hd7.below he2; have hg3 := pw_cell_below hd7.below he3; have hg4 := pw_cell_below hd7.below he4; clear hd7))
          all_goals
            gi_wp2
            refine ⟨?_, ?measure⟩
            case measure => simp [intOf]; omega
            obtain ⟨hm1, hm2⟩ := marks_next HND.out HDS.out hD HK.out HB5.out HB7.out HBR.out (by omega)
            refine ⟨i + 1, D :: Ds, ?_⟩
            (repeat apply Exists.intro)
            exact ⟨by omega, rfl, ⟨hm1⟩, ⟨hm2⟩, ⟨HBR.out.trans ((HB5.out.trans (HB7.out.mono HB5.out.size)).mono HBR.out.size)⟩⟩
        · have hdf : decide (start < 1099511626776) = false := decide_eq_false hfrom
          gi_wp2_with fail
          refine wpIn_wide.2 ?_
          go_quiet (fail)
          have HB7 := Aside0.mk (pw_below_drewN (Below.refl X.heap.size X) nq)
          gi_wp2
          refine ⟨?_, ?measure⟩
          case measure => simp [intOf]; omega
          obtain ⟨hm1, hm2⟩ := marks_next HND.out HDS.out hD HK.out HB5.out HB7.out HBR.out (by omega)
          refine ⟨i + 1, D :: Ds, ?_⟩
          (repeat apply Exists.intro)
          exact ⟨by omega, rfl, ⟨hm1⟩, ⟨hm2⟩, ⟨HBR.out.trans ((HB5.out.trans (HB7.out.mono HB5.out.size)).mono HBR.out.size)⟩⟩
    · obtain rfl : i = 3 := by omega
      gi_wp2
      exact leaves_marks (v := .bool true) (fun w => (results_tmp rfl _ _ w).trans rfl) Ds _ HND.out (fun D hD => ⟨by have := (HDS.out D hD).1; omega, (HDS.out D hD).2⟩) (HB2.out.trans (HBR.out.mono HB2.out.size))
theorem FrameTicks_walk (W : World) (cs : Array Value) (x : Int × List S46) (hK : kFrame.K W x (Value.agg cs).cells.toList) (_hV : VI x.1 ∧ (x.2.length ≤ maxLen ∧ ∀ w ∈ x.2, VW w)) (a : Int) (_ha : (Lit.int .i64 a).wf = true) (b : Int) (_hb : (Lit.int .i64 b).wf = true) :
    Calls Try.prog 11 #[.agg cs, .int .i64 a, .int .i64 b] W fun e w' => e = .returned (.bool true) ∧ Below W.heap.size W w' := by
  obtain ⟨A, c, rfl, hl, hr⟩ := kFrame_open hK
  exact callsIn_wide.1 (FrameTicks_in W x.1 A c x.2 hl hr a b)
end Go.Proofs.Ytndmdlnmjamgkaa.Frame
