import Derived.Test.YtbpmmabdjabfcaaTableParse
import Derived.Test.YtbpmmabdjabfcaaPTx25
/- Package table: a writer takes numbers as words. -/
namespace Go.Proofs.Ytbpmmabdjabfcaa.Table
open Go.RowKit Go.Proofs.YtbpmmabdjabfcaaW.PrintWords Go.Proofs.YtbpmmabdjabfcaaW.PrintLast Go.Proofs.YtbpmmabdjabfcaaW.PrintMore Go.Proofs.Ytbpmmabdjabfcaa.Box Go.Proofs.Ytbpmmabdjabfcaa.PT
set_option linter.unusedSimpArgs false
set_option linter.unusedVariables false
/-- Is a number a word? -/
def fitB (n : Int) : Bool := decide (0 ≤ n ∧ n ≤ 4294967295)
theorem fit_calls (n : Int) (w : World) : Calls Try.prog 70 #[.int .i64 n] w fun e w' => e = .returned (.bool (fitB n)) ∧ Drawn0 w w' :=
  raw_Fit.calls n (fitB n) w (by
    unfold raw_Fit.f fitB
    by_cases h : n ≥ 0
    · rw [if_pos h]; congr 1; rw [decide_eq_decide]; omega
    · rw [if_neg h]; congr 1; exact (decide_eq_false (by omega)).symm)
/-- The word that a number becomes. -/
def wd (n : Int) : Int := n % 4294967296
theorem info_w32 : (Try.prog.info? 43).map (fun i => (i.zero, i.size, i.bytes)) = some (some (.int .u32 0), (Kd.int .u32).sz, 4) := by kernel_rfl
/-- A writer in block g: its words (a row of the call's own), whether one was no word. -/
structure WR (W : World) (g base : Nat) (ws : List Int) (bad : Bool) : Prop where
  all : ∃ v, W.heap[g]? = some (.cells #[v, .bool bad] 83 (0, 0)) ∧ Kd.R (Kd.int .u32) 43 W base (fun j => base ≤ j) v ws
/-- What putting keeps: what lay below the words, but the writer; and any block that is no row of words. -/
structure KP (W W' : World) (g base : Nat) : Prop where
  size : W.heap.size ≤ W'.heap.size
  keep : ∀ k, k < base → k ≠ g → k < W.heap.size → W'.heap[k]? = W.heap[k]?
  typ : ∀ k, k ≠ g → k < W.heap.size → (∀ cs, W.heap[k]? ≠ some (.cells cs 43 (0, 0))) → W'.heap[k]? = W.heap[k]?
theorem KP.refl (W : World) (g base : Nat) : KP W W g base := ⟨Nat.le_refl _, fun _ _ _ _ => rfl, fun _ _ _ _ => rfl⟩
theorem KP.trans {W W1 W2 : World} {g base : Nat} (h : KP W W1 g base) (k : KP W1 W2 g base) : KP W W2 g base :=
  ⟨Nat.le_trans h.size k.size, fun i h1 h2 h3 => (k.keep i h1 h2 (Nat.lt_of_lt_of_le h3 h.size)).trans (h.keep i h1 h2 h3),
    fun i h1 h2 h3 => (k.typ i h1 (Nat.lt_of_lt_of_le h2 h.size) (fun cs => by rw [h.typ i h1 h2 h3]; exact h3 cs)).trans (h.typ i h1 h2 h3)⟩
theorem KP.of_below {W W' : World} {g base : Nat} (h : Below W.heap.size W W') : KP W W' g base := ⟨h.size, fun i _ _ h3 => h.block i h3, fun i _ h2 _ => h.block i h2⟩
theorem KP.set {W : World} {g base j : Nat} (v : Value) : KP W (W.setCell ⟨g, j, none⟩ v) g base := ⟨by simp, fun i _ h2 _ => Below.heap_setCell _ _ _ _ h2, fun i h1 _ _ => Below.heap_setCell _ _ _ _ h1⟩
theorem KP.of_row {W W1 : World} {g base : Nat} {ok : Nat → Prop} {v : Value} {xs : List Int} (hR : Kd.R (Kd.int .u32) 43 W base ok v xs) (hg : W.grownBy W1 v.ownBlock) (hb : Below base W W1) : KP W W1 g base :=
  ⟨hb.size, fun i h1 _ _ => hb.block i h1, fun i _ h2 h3 => hg.block i h2 (fun e => by
    obtain ⟨inner, ho⟩ := Kd.R_own hR
    obtain ⟨cells, hc⟩ := own_typed ho i e.symm
    exact h3 cells hc)⟩
theorem put_take (ns : List Int) (i : Nat) (h : i < ns.length) : (ns.take (i + 1)).map wd = (ns.take i).map wd ++ [wd (ns.getD i 0)] := by
  have e : ns.take (i + 1) = ns.take i ++ [ns.getD i 0] := by rw [List.take_add_one, List.getElem?_eq_getElem h, List.getD_eq_getElem?_getD, List.getElem?_eq_getElem h]; rfl
  rw [e, List.map_append]
  rfl
theorem put_any (ns : List Int) (i : Nat) (h : i < ns.length) : (ns.take (i + 1)).any (fun n => !fitB n) = ((ns.take i).any (fun n => !fitB n) || !fitB (ns.getD i 0)) := by
  have e : ns.take (i + 1) = ns.take i ++ [ns.getD i 0] := by rw [List.take_add_one, List.getElem?_eq_getElem h, List.getD_eq_getElem?_getD, List.getElem?_eq_getElem h]; rfl
  rw [e, List.any_append]
  simp
set_option maxRecDepth 20000 in
set_option maxHeartbeats 4000000 in
theorem put_calls (w W : World) (g base h c : Nat) (ns ws : List Int) (bad : Bool) (hW : WR W g base ws bad) (hgw : w.heap.size ≤ g) (hgb : g < base) (hbs : base ≤ W.heap.size) (hB : Below w.heap.size w W) (hh : W.heap[h]? = some (.cells (ns.map (Value.int .i64)).toArray 3 (0, 0))) (hlen : ws.length + ns.length ≤ 10000) :
    Calls Try.prog 44 #[.pointer (some ⟨g, 0, none⟩), .slice (some ⟨h, 0, none⟩) ns.length c] W fun e w' => e = .returned (.tuple #[]) ∧ WR w' g base (ws ++ ns.map wd) (bad || ns.any (fun n => !fitB n)) ∧ Below w.heap.size w w' ∧ KP W w' g base := by
  have HW := Aside0.mk hW
  have HB := Aside0.mk hB
  have HH := Aside0.mk hh
  have HK := Aside0.mk (KP.refl W g base)
  have HLE := Aside0.mk hlen
  have hne : h ≠ g := fun e => by
    obtain ⟨v, hv, _⟩ := hW.all
    rw [e, hv] at hh
    simp at hh
  have HNE := Aside0.mk hne
  have HBS := Aside0.mk hbs
  obtain ⟨n, hn⟩ : ∃ n, ns.length = n := ⟨_, rfl⟩
  have HN := Aside0.mk hn
  rw [hn]
  have hn1 : n ≤ 10000 := by omega
  clear hW hB hh hlen hne hn hbs
  have hu := Try.underlying22
  go_enter Try.func44, Try.ntmps44
  go_wp2_with fail
  go_loopw [8] (fun v8 wr => ∃ i : Nat, i ≤ n ∧ v8 = .int .i64 i ∧ Aside0 (WR wr g base (ws ++ (ns.take i).map wd) (bad || (ns.take i).any (fun n => !fitB n))) ∧ Aside0 (wr.heap[h]? = some (.cells (ns.map (Value.int .i64)).toArray 3 (0, 0))) ∧ Aside0 (Below w.heap.size w wr) ∧ Aside0 (KP W wr g base)) (fun v8 _ => n - (intOf v8).toNat)
  case atStart => exact ⟨0, by omega, rfl, ⟨by simpa using HW.out⟩, HH, HB, HK⟩
  case round =>
    obtain ⟨i, hi, rfl, HW, HH, HB, HK⟩ := hrel
    by_cases hlt : i < n
    · have hd : decide (i < n) = true := decide_eq_true hlt
      have hil : i < ns.length := by rw [HN.out]; exact hlt
      have ht := put_take ns i hil
      have hy := put_any ns i hil
      have hcell : wr.cell? ⟨h, i, none⟩ = some (.int .i64 (ns.getD i 0)) := (blk_cell HH.out i).trans (by rw [List.getElem?_toArray, List.getElem?_map, List.getElem?_eq_getElem hil, List.getD_eq_getElem?_getD, List.getElem?_eq_getElem hil]; rfl)
      generalize ns.getD i 0 = x at *
      generalize (ns.take i).map wd = us at *
      generalize (ns.take i).any (fun n => !fitB n) = ub at *
      have HT := Aside0.mk ht
      have HY := Aside0.mk hy
      have hul : us.length = i := by
        have h1 := congrArg List.length ht
        simp at h1
        omega
      have HUL := Aside0.mk hul
      clear ht hy hul
      generalize hbb : (bad || ub) = bb at *
      have HBB := Aside0.mk hbb
      clear hbb
      obtain ⟨v, hv, hR⟩ := HW.out.all
      obtain ⟨Av, cv, rfl⟩ := Kd.R_slice hR
      have hb0 : wr.cell? ⟨g, 0, none⟩ = some (.slice Av (ws ++ us).length cv) := (blk_cell hv 0).trans rfl
      have hb1 : wr.cell? ⟨g, 1, none⟩ = some (.bool bb) := (blk_cell hv 1).trans rfl
      have hf1 := blk_frozen hv 1
      have HV := Aside0.mk hv
      have HR := Aside0.mk hR
      have HF := Aside0.mk (fit_calls x)
      clear hv hR HW
      obtain ⟨wl, hwl⟩ : ∃ l, (ws ++ us).length = l := ⟨_, rfl⟩
      rw [hwl] at hb0 HV HR
      have HWL := Aside0.mk hwl
      clear hwl
      have hp := HBS.out
      have hsz := HK.out.size
      cases bb with
      | true =>
        have HV2 := HV
        have HR2 := HR
        have HH2 := HH
        have HB2 := HB
        have HK2 := HK
        clear HV HR HH HB HK
        have HSL : Aside0 (Value.slice (some ⟨wr.heap.size, 0, none⟩) 1 1 = Value.slice (some ⟨(wr.setCell ⟨g, 1, none⟩ (.bool true)).heap.size, 0, none⟩) 1 1) := ⟨by simp⟩
        have hv2 : (wr.setCell ⟨g, 1, none⟩ (.bool true)).heap[g]? = some (.cells #[.slice Av wl cv, .bool true] 83 (0, 0)) := (blk_set HV2.out 1 (.bool true)).trans rfl
        have hh2 : (wr.setCell ⟨g, 1, none⟩ (.bool true)).heap[h]? = some (.cells (ns.map (Value.int .i64)).toArray 3 (0, 0)) := blk_far HH2.out (by show h ≠ g; exact HNE.out) _
        have hr2 := Kd.R_far HR2.out (p := ⟨g, 1, none⟩) (fun j hj => by show j ≠ g; have h : base ≤ j := hj; omega) (.bool true)
        have HB3 : Aside0 (Below w.heap.size w (wr.setCell ⟨g, 1, none⟩ (.bool true))) := ⟨below_set HB2.out hgw⟩
        have HK3 : Aside0 (KP W (wr.setCell ⟨g, 1, none⟩ (.bool true)) g base) := ⟨HK2.out.trans (KP.set _)⟩
        have HV3 := Aside0.mk hv2
        have HH3 := Aside0.mk hh2
        have HR3 := Aside0.mk hr2
        have hb0' : (wr.setCell ⟨g, 1, none⟩ (.bool true)).cell? ⟨g, 0, none⟩ = some (.slice Av wl cv) := (blk_cell hv2 0).trans rfl
        clear hv2 hh2 hr2 HV2 HH2 HR2 HB2 HK2
        go_wp2_with (at_builtin; refine Kd.R_append (Kd.int .u32) (w0 := wr.setCell ⟨g, 1, none⟩ (.bool true)) base rfl (.tmp 28) (.tmp 31) 22 43 (.int .u32 0) 4 rfl hu info_w32 rfl (by decide) (by omega) _ (ws ++ us) (x % 4294967296) [.int .u32 (x % 4294967296)] (fun j => base ≤ j) (fun _ => False) rfl HSL.out ?aP (fun _ h => h.elim) ?aF ?aO ?aB ?aS ?aL ?_)
        case aP => exact rfl
        case aF => exact fun k hk => by have := HK3.out.size; omega
        case aO => exact HR3.out
        case aB => exact Below.refl _ _
        case aS => have := HK3.out.size; omega
        case aL => rw [List.length_append, HUL.out]; have := HLE.out; have := HN.out; omega
        intro v1 w3 ho hb hg hat
        obtain ⟨A6, n6, c6, rfl⟩ : ∃ A n c, v1 = .slice A n c := by
          obtain ⟨A, c, h⟩ := Kd.R_slice ho
          exact ⟨A, _, c, h⟩
        have hv4 := (hb.block g hgb).trans HV3.out
        have hb4 : w3.cell? ⟨g, 0, none⟩ = some (.slice Av wl cv) := (blk_cell hv4 0).trans rfl
        have hf4 := blk_frozen hv4 0
        have hv5 : (w3.setCell ⟨g, 0, none⟩ (.slice A6 n6 c6)).heap[g]? = some (.cells #[.slice A6 n6 c6, .bool true] 83 (0, 0)) := (blk_set hv4 0 (.slice A6 n6 c6)).trans rfl
        have HH5 := Aside0.mk (blk_far ((hg.block h (blk_lt HH3.out) (Kd.R_ne HR3.out HH3.out (by decide))).trans HH3.out) (p := ⟨g, 0, none⟩) (by show h ≠ g; exact HNE.out) (.slice A6 n6 c6))
        have HB5 := Aside0.mk (below_set (g := g) (j := 0) (v := .slice A6 n6 c6) (HB3.out.trans (hb.mono (by omega))) hgw)
        have HK5 := Aside0.mk ((HK3.out.trans (KP.of_row HR3.out hg hb)).trans (KP.set (j := 0) (.slice A6 n6 c6)))
        have hR5 : Kd.R (Kd.int .u32) 43 (w3.setCell ⟨g, 0, none⟩ (.slice A6 n6 c6)) base (fun j => base ≤ j) (.slice A6 n6 c6) (ws ++ (ns.take (i + 1)).map wd) := by
          rw [HT.out]
          have h := Kd.R_far ho (p := ⟨g, 0, none⟩) (fun j hj => by show j ≠ g; have h : base ≤ j := hj; omega) (.slice A6 n6 c6)
          simpa [wd, List.append_assoc] using h
        have HW5 : Aside0 (WR (w3.setCell ⟨g, 0, none⟩ (.slice A6 n6 c6)) g base (ws ++ (ns.take (i + 1)).map wd) (bad || (ns.take (i + 1)).any (fun n => !fitB n))) := ⟨⟨_, by rw [HY.out, ← Bool.or_assoc, HBB.out]; exact hv5, hR5⟩⟩
        clear ho hb hg hat hv4 hv5 hR5 hb0'
        go_wp2
        go_roundw
        case rel => exact ⟨i + 1, by omega, by go_num, HW5, HH5, HB5, HK5⟩
        case measure => simp [intOf]; omega
      | false =>
        go_wp2_with fail
        refine (HF.out _).mono ?_
        rintro e w2 ⟨rfl, hdr⟩
        obtain ⟨nd, hnd⟩ := hdr.out
        have hbd := pw_below_drewN (Below.refl wr.heap.size wr) nd
        rw [← hnd] at hbd
        have HV2 := Aside0.mk (blk_below HV.out hbd)
        have HR2 := Aside0.mk (Kd.R_below HR.out hbd)
        have HH2 := Aside0.mk (blk_below HH.out hbd)
        have HB2 := Aside0.mk (HB.out.trans (hbd.mono HB.out.size))
        have HK2 := Aside0.mk (HK.out.trans (KP.of_below hbd))
        have hb1' : w2.cell? ⟨g, 1, none⟩ = some (.bool false) := (blk_cell HV2.out 1).trans rfl
        have hf1' := blk_frozen HV2.out 1
        clear HV HR HH HB HK hdr hnd hbd hb0 hb1 hf1
        have HFX : Aside0 (fitB x = fitB x) := ⟨rfl⟩
        generalize hfx : fitB x = fx at *
        have HFQ := Aside0.mk hfx
        clear hfx
        cases fx with
        | true =>
          have HSL : Aside0 (Value.slice (some ⟨w2.heap.size, 0, none⟩) 1 1 = Value.slice (some ⟨(w2.setCell ⟨g, 1, none⟩ (.bool false)).heap.size, 0, none⟩) 1 1) := ⟨by simp⟩
          have hv2 : (w2.setCell ⟨g, 1, none⟩ (.bool false)).heap[g]? = some (.cells #[.slice Av wl cv, .bool false] 83 (0, 0)) := (blk_set HV2.out 1 (.bool false)).trans rfl
          have hh2 : (w2.setCell ⟨g, 1, none⟩ (.bool false)).heap[h]? = some (.cells (ns.map (Value.int .i64)).toArray 3 (0, 0)) := blk_far HH2.out (by show h ≠ g; exact HNE.out) _
          have hr2 := Kd.R_far HR2.out (p := ⟨g, 1, none⟩) (fun j hj => by show j ≠ g; have h : base ≤ j := hj; omega) (.bool false)
          have HB3 : Aside0 (Below w.heap.size w (w2.setCell ⟨g, 1, none⟩ (.bool false))) := ⟨below_set HB2.out hgw⟩
          have HK3 : Aside0 (KP W (w2.setCell ⟨g, 1, none⟩ (.bool false)) g base) := ⟨HK2.out.trans (KP.set _)⟩
          have HV3 := Aside0.mk hv2
          have HH3 := Aside0.mk hh2
          have HR3 := Aside0.mk hr2
          have hb0' : (w2.setCell ⟨g, 1, none⟩ (.bool false)).cell? ⟨g, 0, none⟩ = some (.slice Av wl cv) := (blk_cell hv2 0).trans rfl
          clear hv2 hh2 hr2 HV2 HH2 HR2 HB2 HK2
          go_wp2_with (at_builtin; refine Kd.R_append (Kd.int .u32) (w0 := w2.setCell ⟨g, 1, none⟩ (.bool false)) base rfl (.tmp 28) (.tmp 31) 22 43 (.int .u32 0) 4 rfl hu info_w32 rfl (by decide) (by omega) _ (ws ++ us) (x % 4294967296) [.int .u32 (x % 4294967296)] (fun j => base ≤ j) (fun _ => False) rfl HSL.out ?bP (fun _ h => h.elim) ?bF ?bO ?bB ?bS ?bL ?_)
          case bP => exact rfl
          case bF => exact fun k hk => by have := HK3.out.size; omega
          case bO => exact HR3.out
          case bB => exact Below.refl _ _
          case bS => have := HK3.out.size; omega
          case bL => rw [List.length_append, HUL.out]; have := HLE.out; have := HN.out; omega
          intro v1 w3 ho hb hg hat
          obtain ⟨A6, n6, c6, rfl⟩ : ∃ A n c, v1 = .slice A n c := by
            obtain ⟨A, c, h⟩ := Kd.R_slice ho
            exact ⟨A, _, c, h⟩
          have hv4 := (hb.block g hgb).trans HV3.out
          have hb4 : w3.cell? ⟨g, 0, none⟩ = some (.slice Av wl cv) := (blk_cell hv4 0).trans rfl
          have hf4 := blk_frozen hv4 0
          have hv5 : (w3.setCell ⟨g, 0, none⟩ (.slice A6 n6 c6)).heap[g]? = some (.cells #[.slice A6 n6 c6, .bool false] 83 (0, 0)) := (blk_set hv4 0 (.slice A6 n6 c6)).trans rfl
          have HH5 := Aside0.mk (blk_far ((hg.block h (blk_lt HH3.out) (Kd.R_ne HR3.out HH3.out (by decide))).trans HH3.out) (p := ⟨g, 0, none⟩) (by show h ≠ g; exact HNE.out) (.slice A6 n6 c6))
          have HB5 := Aside0.mk (below_set (g := g) (j := 0) (v := .slice A6 n6 c6) (HB3.out.trans (hb.mono (by omega))) hgw)
          have HK5 := Aside0.mk ((HK3.out.trans (KP.of_row HR3.out hg hb)).trans (KP.set (j := 0) (.slice A6 n6 c6)))
          have hR5 : Kd.R (Kd.int .u32) 43 (w3.setCell ⟨g, 0, none⟩ (.slice A6 n6 c6)) base (fun j => base ≤ j) (.slice A6 n6 c6) (ws ++ (ns.take (i + 1)).map wd) := by
            rw [HT.out]
            have h := Kd.R_far ho (p := ⟨g, 0, none⟩) (fun j hj => by show j ≠ g; have h : base ≤ j := hj; omega) (.slice A6 n6 c6)
            simpa [wd, List.append_assoc] using h
          have HW5 : Aside0 (WR (w3.setCell ⟨g, 0, none⟩ (.slice A6 n6 c6)) g base (ws ++ (ns.take (i + 1)).map wd) (bad || (ns.take (i + 1)).any (fun n => !fitB n))) := ⟨⟨_, by rw [HY.out, ← Bool.or_assoc, HBB.out]; exact hv5, hR5⟩⟩
          clear ho hb hg hat hv4 hv5 hR5 hb0'
          go_wp2
          go_roundw
          case rel => exact ⟨i + 1, by omega, by go_num, HW5, HH5, HB5, HK5⟩
          case measure => simp [intOf]; omega
        | false =>
          have HSL : Aside0 (Value.slice (some ⟨w2.heap.size, 0, none⟩) 1 1 = Value.slice (some ⟨(w2.setCell ⟨g, 1, none⟩ (.bool true)).heap.size, 0, none⟩) 1 1) := ⟨by simp⟩
          have hv2 : (w2.setCell ⟨g, 1, none⟩ (.bool true)).heap[g]? = some (.cells #[.slice Av wl cv, .bool true] 83 (0, 0)) := (blk_set HV2.out 1 (.bool true)).trans rfl
          have hh2 : (w2.setCell ⟨g, 1, none⟩ (.bool true)).heap[h]? = some (.cells (ns.map (Value.int .i64)).toArray 3 (0, 0)) := blk_far HH2.out (by show h ≠ g; exact HNE.out) _
          have hr2 := Kd.R_far HR2.out (p := ⟨g, 1, none⟩) (fun j hj => by show j ≠ g; have h : base ≤ j := hj; omega) (.bool true)
          have HB3 : Aside0 (Below w.heap.size w (w2.setCell ⟨g, 1, none⟩ (.bool true))) := ⟨below_set HB2.out hgw⟩
          have HK3 : Aside0 (KP W (w2.setCell ⟨g, 1, none⟩ (.bool true)) g base) := ⟨HK2.out.trans (KP.set _)⟩
          have HV3 := Aside0.mk hv2
          have HH3 := Aside0.mk hh2
          have HR3 := Aside0.mk hr2
          have hb0' : (w2.setCell ⟨g, 1, none⟩ (.bool true)).cell? ⟨g, 0, none⟩ = some (.slice Av wl cv) := (blk_cell hv2 0).trans rfl
          clear hv2 hh2 hr2 HV2 HH2 HR2 HB2 HK2
          go_wp2_with (at_builtin; refine Kd.R_append (Kd.int .u32) (w0 := w2.setCell ⟨g, 1, none⟩ (.bool true)) base rfl (.tmp 28) (.tmp 31) 22 43 (.int .u32 0) 4 rfl hu info_w32 rfl (by decide) (by omega) _ (ws ++ us) (x % 4294967296) [.int .u32 (x % 4294967296)] (fun j => base ≤ j) (fun _ => False) rfl HSL.out ?cP (fun _ h => h.elim) ?cF ?cO ?cB ?cS ?cL ?_)
          case cP => exact rfl
          case cF => exact fun k hk => by have := HK3.out.size; omega
          case cO => exact HR3.out
          case cB => exact Below.refl _ _
          case cS => have := HK3.out.size; omega
          case cL => rw [List.length_append, HUL.out]; have := HLE.out; have := HN.out; omega
          intro v1 w3 ho hb hg hat
          obtain ⟨A6, n6, c6, rfl⟩ : ∃ A n c, v1 = .slice A n c := by
            obtain ⟨A, c, h⟩ := Kd.R_slice ho
            exact ⟨A, _, c, h⟩
          have hv4 := (hb.block g hgb).trans HV3.out
          have hb4 : w3.cell? ⟨g, 0, none⟩ = some (.slice Av wl cv) := (blk_cell hv4 0).trans rfl
          have hf4 := blk_frozen hv4 0
          have hv5 : (w3.setCell ⟨g, 0, none⟩ (.slice A6 n6 c6)).heap[g]? = some (.cells #[.slice A6 n6 c6, .bool true] 83 (0, 0)) := (blk_set hv4 0 (.slice A6 n6 c6)).trans rfl
          have HH5 := Aside0.mk (blk_far ((hg.block h (blk_lt HH3.out) (Kd.R_ne HR3.out HH3.out (by decide))).trans HH3.out) (p := ⟨g, 0, none⟩) (by show h ≠ g; exact HNE.out) (.slice A6 n6 c6))
          have HB5 := Aside0.mk (below_set (g := g) (j := 0) (v := .slice A6 n6 c6) (HB3.out.trans (hb.mono (by omega))) hgw)
          have HK5 := Aside0.mk ((HK3.out.trans (KP.of_row HR3.out hg hb)).trans (KP.set (j := 0) (.slice A6 n6 c6)))
          have hR5 : Kd.R (Kd.int .u32) 43 (w3.setCell ⟨g, 0, none⟩ (.slice A6 n6 c6)) base (fun j => base ≤ j) (.slice A6 n6 c6) (ws ++ (ns.take (i + 1)).map wd) := by
            rw [HT.out]
            have h := Kd.R_far ho (p := ⟨g, 0, none⟩) (fun j hj => by show j ≠ g; have h : base ≤ j := hj; omega) (.slice A6 n6 c6)
            simpa [wd, List.append_assoc] using h
          have HW5 : Aside0 (WR (w3.setCell ⟨g, 0, none⟩ (.slice A6 n6 c6)) g base (ws ++ (ns.take (i + 1)).map wd) (bad || (ns.take (i + 1)).any (fun n => !fitB n))) := ⟨⟨_, by rw [HY.out, ← Bool.or_assoc, HBB.out]; exact hv5, hR5⟩⟩
          clear ho hb hg hat hv4 hv5 hR5 hb0'
          go_wp2
          go_roundw
          case rel => exact ⟨i + 1, by omega, by go_num, HW5, HH5, HB5, HK5⟩
          case measure => simp [intOf]; omega
    · obtain rfl : i = n := by omega
      have hd : decide (i < i) = false := decide_eq_false (by omega)
      go_wp2
      (try simp only [Exit.inBlock, Exit.then])
      refine bodyPost_end (by simp [results, Try.results44, go_sem]; try rfl) rfl ?_
      exact ⟨rfl, by have h := HW.out; rw [List.take_of_length_le (by have := HN.out; omega)] at h; exact h, HB.out, HK.out⟩
end Go.Proofs.Ytbpmmabdjabfcaa.Table
