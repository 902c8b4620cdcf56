import Derived.Test.YtbpmmabdjabfcaaTablePart
import Derived.WalkSpells
/- Package table: a window's row, a channel's row. Written by wip/tablerow.py. -/
namespace Go.Proofs.Ytbpmmabdjabfcaa.Table
open Go.RowKit Go.Proofs.YtbpmmabdjabfcaaW.PrintWords Go.Proofs.YtbpmmabdjabfcaaW.PrintMore Go.Proofs.Ytbpmmabdjabfcaa.Box
/-- The array, when i of its n numbers have been read. -/
def arrV (ws : List Int) (n i : Nat) : List Value := (List.range n).map fun j => .int .i64 (if j < i then ws.getD j 0 else 0)
theorem nextV_drop (ws : List Int) (i : Nat) : nextV (ws.drop i) = ws.getD i 0 := by
  rw [nextV, List.headD_eq_head?_getD, List.head?_drop, List.getD_eq_getElem?_getD]
theorem nextS_drop (ws : List Int) (s : Bool) (i : Nat) : nextS (ws.drop i) (shortS ws s i) = shortS ws s (i + 1) := by
  unfold nextS shortS
  by_cases h : ws.length ≤ i
  · rw [List.drop_of_length_le h, decide_eq_true (show ws.length < i + 1 by omega)]; simp
  · obtain ⟨x, r, hx⟩ : ∃ x r, ws.drop i = x :: r := List.exists_cons_of_ne_nil (fun e => h (List.drop_eq_nil_iff.1 e))
    rw [hx, decide_eq_false (show ¬ ws.length < i + 1 by omega), decide_eq_false (show ¬ ws.length < i by omega)]; simp
theorem arrV_set (ws : List Int) (n i : Nat) : (arrV ws n i).toArray.setIfInBounds i (.int .i64 (ws.getD i 0)) = (arrV ws n (i + 1)).toArray := by
  rw [List.setIfInBounds_toArray]
  congr 1
  apply List.ext_getElem
  · simp [arrV]
  · intro j h1 h2
    simp only [arrV, List.length_map, List.length_range] at h2
    rw [List.getElem_set]
    simp only [arrV, List.getElem_map, List.getElem_range]
    by_cases e : i = j
    · subst e; simp
    · rw [if_neg e]
      by_cases hj : j < i
      · rw [if_pos hj, if_pos (by omega)]
      · rw [if_neg hj, if_neg (by omega)]
set_option maxHeartbeats 2000000 in
theorem window_calls (w0 : World) (g gp : Nat) (ws : List Int) (s : Bool) (w : World) (hw : Words ws) (hI : IsBox w0 w g 59 [] ws s) (hgp : w.heap[gp]? = some (.cells #[.pointer (some ⟨g, 0, none⟩)] 57 (0, 0))) (hne : gp ≠ g) (hB : Below w0.heap.size w0 w) :
    Calls Try.prog 36 #[.func (.func 69) #[] #[.pointer (some ⟨gp, 0, none⟩)]] w fun e w' => e = .returned (.agg #[(.int .i64 (ws.getD 0 0)), (.int .i64 (ws.getD 1 0)), (.int .i64 (ws.getD 2 0))]) ∧ IsBox w0 w' g 59 [] (ws.drop 3) (shortS ws s 3) ∧ Below w0.heap.size w0 w' ∧ KeepBut w w' g none := by
  have HW := Aside0.mk hw
  have hgw : g < w.heap.size := by obtain ⟨A, c, hg, _⟩ := hI; exact blk_lt hg
  have hpw : gp < w.heap.size := blk_lt hgp
  have hr0 := blk_alloc (blk_new w (.cells #[.int .i64 0, .int .i64 0, .int .i64 0] 72)) (.cells #[.int .i64 0, .int .i64 0, .int .i64 0] 114)
  have ha0 := blk_new (w.alloc (.cells #[.int .i64 0, .int .i64 0, .int .i64 0] 72)) (.cells #[.int .i64 0, .int .i64 0, .int .i64 0] 114)
  rw [World.size_alloc] at ha0
  have hb1 := below_alloc (below_alloc (Below.refl _ w) (.cells #[.int .i64 0, .int .i64 0, .int .i64 0] 72)) (.cells #[.int .i64 0, .int .i64 0, .int .i64 0] 114)
  have HI := Aside0.mk (hI.below hb1)
  have HG := Aside0.mk (blk_below hgp hb1)
  have HB := Aside0.mk (hB.trans (hb1.mono hB.size))
  have HK := Aside0.mk (KeepBut.of_below hb1 g none)
  have HR := Aside0.mk hr0
  have HA := Aside0.mk ha0
  have hge := hI.ge
  clear hw hI hgp hB hb1 hr0 ha0
  go_enter Try.func36, Try.ntmps36
  go_wp2
  generalize (w.alloc (.cells #[.int .i64 0, .int .i64 0, .int .i64 0] 72)).alloc (.cells #[.int .i64 0, .int .i64 0, .int .i64 0] 114) = w1 at *
  go_loopw [5] (fun v wr => ∃ i : Nat, i ≤ 3 ∧ v = .int .i64 i ∧ Aside0 (wr.heap[w.heap.size + 1]? = some (.cells (arrV ws 3 i).toArray 114 (0, 0))) ∧ Aside0 (wr.heap[w.heap.size]? = some (.cells #[.int .i64 0, .int .i64 0, .int .i64 0] 72 (0, 0))) ∧ Aside0 (IsBox w0 wr g 59 [] (ws.drop i) (shortS ws s i)) ∧ Aside0 (wr.heap[gp]? = some (.cells #[.pointer (some ⟨g, 0, none⟩)] 57 (0, 0))) ∧ Aside0 (Below w0.heap.size w0 wr) ∧ Aside0 (KeepBut w wr g none)) (fun v _ => 3 - (intOf v).toNat)
  case atStart => exact ⟨0, by omega, rfl, HA, HR, ⟨by simpa [shortS] using HI.out⟩, HG, HB, HK⟩
  case round =>
    obtain ⟨i, hi, rfl, HA, HR, HI, HG, HB, HK⟩ := hrel
    by_cases hlt : i < 3
    · have hn := next_window w0 g gp (ws.drop i) (shortS ws s i) wr (HW.out.drop i) HI.out HG.out HB.out
      rw [nextV_drop, nextS_drop, List.tail_drop] at hn
      have HN := Aside0.mk hn
      clear hn
      go_wp2_with fail
      refine HN.out.mono ?_
      rintro e w2 ⟨rfl, h1, h2, h3⟩
      have ha2 := h3.blk HA.out (by omega) (by simp)
      have hr2 := h3.blk HR.out (by omega) (by simp)
      have hg2 := h3.blk HG.out hne (by simp)
      have hk2 := HK.out.trans h3 (.inl rfl)
      have hcl : ∃ u, w2.cell? ⟨w.heap.size + 1, i, none⟩ = some u := ⟨_, (blk_cell ha2 i).trans (by rw [List.getElem?_toArray]; exact List.getElem?_eq_getElem (by simp [arrV]; omega))⟩
      obtain ⟨u, hcl⟩ := hcl
      have hfl := blk_frozen ha2 i
      have ha3 := blk_set ha2 i (.int .i64 (ws.getD i 0))
      rw [arrV_set] at ha3
      have hr3 := blk_far hr2 (p := ⟨w.heap.size + 1, i, none⟩) (by show w.heap.size ≠ w.heap.size + 1; omega) (.int .i64 (ws.getD i 0))
      have hg3 := blk_far hg2 (p := ⟨w.heap.size + 1, i, none⟩) (by show gp ≠ w.heap.size + 1; omega) (.int .i64 (ws.getD i 0))
      have hI3 : IsBox w0 (w2.setCell ⟨w.heap.size + 1, i, none⟩ (.int .i64 (ws.getD i 0))) g 59 [] (ws.drop (i + 1)) (shortS ws s (i + 1)) := by
        obtain ⟨A, c, hg, h⟩ := h1
        exact ⟨A, c, blk_far hg (by show g ≠ w.heap.size + 1; omega) _, h⟩
      have hB3 : Below w0.heap.size w0 (w2.setCell ⟨w.heap.size + 1, i, none⟩ (.int .i64 (ws.getD i 0))) := below_set h2 (by omega)
      have hK3 : KeepBut w (w2.setCell ⟨w.heap.size + 1, i, none⟩ (.int .i64 (ws.getD i 0))) g none :=
        ⟨by have := hk2.1; simpa using this, fun k hk h1 h2 => (Below.heap_setCell _ _ _ _ (by show k ≠ w.heap.size + 1; omega)).trans (hk2.2 k hk h1 h2)⟩
      have HA3 := Aside0.mk ha3
      have HR3 := Aside0.mk hr3
      have HG3 := Aside0.mk hg3
      have HI3 := Aside0.mk hI3
      have HB3 := Aside0.mk hB3
      have HK3 := Aside0.mk hK3
      clear h1 h2 h3 ha2 hr2 hg2 hk2 ha3 hr3 hg3 hI3 hB3 hK3
      generalize ws.getD i 0 = x at *
      go_wp2
      go_roundw
      case rel => exact ⟨i + 1, by omega, by go_num, HA3, HR3, HI3, HG3, HB3, HK3⟩
      case measure => simp [intOf]; omega
    · obtain rfl : i = 3 := by omega
      have hv : ∀ j, 0 ≤ ws.getD j 0 ∧ ws.getD j 0 ≤ 4294967295 := fun j => by
        rw [List.getD_eq_getElem?_getD]
        cases h : ws[j]? with
        | none => simp
        | some x => exact HW.out x (List.mem_of_getElem? h)
      have hc0 : wr.cell? ⟨w.heap.size + 1, 0, none⟩ = some (.int .i64 (ws.getD 0 0)) := (blk_cell HA.out 0).trans (by simp [arrV])
      have hv0 := hv 0
      have hr0 := (blk_cell HR.out 0).trans rfl
      have hfr0 := blk_frozen HR.out 0
      have hc1 : wr.cell? ⟨w.heap.size + 1, 1, none⟩ = some (.int .i64 (ws.getD 1 0)) := (blk_cell HA.out 1).trans (by simp [arrV])
      have hv1 := hv 1
      have hr1 := (blk_cell HR.out 1).trans rfl
      have hfr1 := blk_frozen HR.out 1
      have hc2 : wr.cell? ⟨w.heap.size + 1, 2, none⟩ = some (.int .i64 (ws.getD 2 0)) := (blk_cell HA.out 2).trans (by simp [arrV])
      have hv2 := hv 2
      have hr2 := (blk_cell HR.out 2).trans rfl
      have hfr2 := blk_frozen HR.out 2
      have hc_ := HK.out.1
      have HV := Aside0.mk hv
      generalize hg0 : ws.getD 0 0 = x0 at *
      generalize hg1 : ws.getD 1 0 = x1 at *
      generalize hg2 : ws.getD 2 0 = x2 at *
      go_wp2
      have hf0 := (blk_set (blk_set (blk_set HR.out 0 (.int .i64 x0)) 1 (.int .i64 x1)) 2 (.int .i64 x2))
      have hz0 := (blk_cell hf0 0).trans rfl
      have hz1 := (blk_cell hf0 1).trans rfl
      have hz2 := (blk_cell hf0 2).trans rfl
      have hI3 : IsBox w0 (((wr.setCell ⟨w.heap.size, 0, none⟩ (.int .i64 x0)).setCell ⟨w.heap.size, 1, none⟩ (.int .i64 x1)).setCell ⟨w.heap.size, 2, none⟩ (.int .i64 x2)) g 59 [] (ws.drop 3) (shortS ws s 3) := by
        obtain ⟨A, c, hg, h⟩ := HI.out
        exact ⟨A, c, (blk_far (blk_far (blk_far hg (by show g ≠ w.heap.size; omega) _) (by show g ≠ w.heap.size; omega) _) (by show g ≠ w.heap.size; omega) _), h⟩
      have hB3 : Below w0.heap.size w0 (((wr.setCell ⟨w.heap.size, 0, none⟩ (.int .i64 x0)).setCell ⟨w.heap.size, 1, none⟩ (.int .i64 x1)).setCell ⟨w.heap.size, 2, none⟩ (.int .i64 x2)) := (below_set (below_set (below_set HB.out (by omega)) (by omega)) (by omega))
      have hK3 : KeepBut w (((wr.setCell ⟨w.heap.size, 0, none⟩ (.int .i64 x0)).setCell ⟨w.heap.size, 1, none⟩ (.int .i64 x1)).setCell ⟨w.heap.size, 2, none⟩ (.int .i64 x2)) g none := ⟨by have := HK.out.1; simpa using this, fun k hk h1 h2 => ((Below.heap_setCell _ _ _ _ (by show k ≠ w.heap.size; omega)).trans ((Below.heap_setCell _ _ _ _ (by show k ≠ w.heap.size; omega)).trans ((Below.heap_setCell _ _ _ _ (by show k ≠ w.heap.size; omega)).trans (HK.out.2 k hk h1 h2))))⟩
      generalize (((wr.setCell ⟨w.heap.size, 0, none⟩ (.int .i64 x0)).setCell ⟨w.heap.size, 1, none⟩ (.int .i64 x1)).setCell ⟨w.heap.size, 2, none⟩ (.int .i64 x2)) = wz at *
      (try simp only [Exit.inBlock, Exit.then])
      refine bodyPost_ret (by simp [results, Try.results36, go_sem, hz0, hz1, hz2]; try rfl) rfl ?_
      exact ⟨by rw [hg0, hg1, hg2], hI3, hB3, hK3⟩
set_option maxHeartbeats 2000000 in
theorem channel_calls (w0 : World) (g gp : Nat) (ws : List Int) (s : Bool) (w : World) (hw : Words ws) (hI : IsBox w0 w g 59 [] ws s) (hgp : w.heap[gp]? = some (.cells #[.pointer (some ⟨g, 0, none⟩)] 57 (0, 0))) (hne : gp ≠ g) (hB : Below w0.heap.size w0 w) :
    Calls Try.prog 34 #[.func (.func 68) #[] #[.pointer (some ⟨gp, 0, none⟩)]] w fun e w' => e = .returned (.agg #[(.int .i64 (ws.getD 0 0)), (.int .i64 (ws.getD 1 0)), (.int .i64 (ws.getD 2 0)), (.int .i64 (ws.getD 3 0)), (.int .i64 (ws.getD 4 0)), (.int .i64 (ws.getD 5 0)), (.int .u32 (ws.getD 6 0))]) ∧ IsBox w0 w' g 59 [] (ws.drop 7) (shortS ws s 7) ∧ Below w0.heap.size w0 w' ∧ KeepBut w w' g none := by
  have HW := Aside0.mk hw
  have hgw : g < w.heap.size := by obtain ⟨A, c, hg, _⟩ := hI; exact blk_lt hg
  have hpw : gp < w.heap.size := blk_lt hgp
  have hr0 := blk_alloc (blk_new w (.cells #[.int .i64 0, .int .i64 0, .int .i64 0, .int .i64 0, .int .i64 0, .int .i64 0, .int .u32 0] 68)) (.cells #[.int .i64 0, .int .i64 0, .int .i64 0, .int .i64 0, .int .i64 0, .int .i64 0, .int .i64 0] 113)
  have ha0 := blk_new (w.alloc (.cells #[.int .i64 0, .int .i64 0, .int .i64 0, .int .i64 0, .int .i64 0, .int .i64 0, .int .u32 0] 68)) (.cells #[.int .i64 0, .int .i64 0, .int .i64 0, .int .i64 0, .int .i64 0, .int .i64 0, .int .i64 0] 113)
  rw [World.size_alloc] at ha0
  have hb1 := below_alloc (below_alloc (Below.refl _ w) (.cells #[.int .i64 0, .int .i64 0, .int .i64 0, .int .i64 0, .int .i64 0, .int .i64 0, .int .u32 0] 68)) (.cells #[.int .i64 0, .int .i64 0, .int .i64 0, .int .i64 0, .int .i64 0, .int .i64 0, .int .i64 0] 113)
  have HI := Aside0.mk (hI.below hb1)
  have HG := Aside0.mk (blk_below hgp hb1)
  have HB := Aside0.mk (hB.trans (hb1.mono hB.size))
  have HK := Aside0.mk (KeepBut.of_below hb1 g none)
  have HR := Aside0.mk hr0
  have HA := Aside0.mk ha0
  have hge := hI.ge
  clear hw hI hgp hB hb1 hr0 ha0
  go_enter Try.func34, Try.ntmps34
  go_wp2
  generalize (w.alloc (.cells #[.int .i64 0, .int .i64 0, .int .i64 0, .int .i64 0, .int .i64 0, .int .i64 0, .int .u32 0] 68)).alloc (.cells #[.int .i64 0, .int .i64 0, .int .i64 0, .int .i64 0, .int .i64 0, .int .i64 0, .int .i64 0] 113) = w1 at *
  go_loopw [5] (fun v wr => ∃ i : Nat, i ≤ 7 ∧ v = .int .i64 i ∧ Aside0 (wr.heap[w.heap.size + 1]? = some (.cells (arrV ws 7 i).toArray 113 (0, 0))) ∧ Aside0 (wr.heap[w.heap.size]? = some (.cells #[.int .i64 0, .int .i64 0, .int .i64 0, .int .i64 0, .int .i64 0, .int .i64 0, .int .u32 0] 68 (0, 0))) ∧ Aside0 (IsBox w0 wr g 59 [] (ws.drop i) (shortS ws s i)) ∧ Aside0 (wr.heap[gp]? = some (.cells #[.pointer (some ⟨g, 0, none⟩)] 57 (0, 0))) ∧ Aside0 (Below w0.heap.size w0 wr) ∧ Aside0 (KeepBut w wr g none)) (fun v _ => 7 - (intOf v).toNat)
  case atStart => exact ⟨0, by omega, rfl, HA, HR, ⟨by simpa [shortS] using HI.out⟩, HG, HB, HK⟩
  case round =>
    obtain ⟨i, hi, rfl, HA, HR, HI, HG, HB, HK⟩ := hrel
    by_cases hlt : i < 7
    · have hn := next_chan w0 g gp (ws.drop i) (shortS ws s i) wr (HW.out.drop i) HI.out HG.out HB.out
      rw [nextV_drop, nextS_drop, List.tail_drop] at hn
      have HN := Aside0.mk hn
      clear hn
      go_wp2_with fail
      refine HN.out.mono ?_
      rintro e w2 ⟨rfl, h1, h2, h3⟩
      have ha2 := h3.blk HA.out (by omega) (by simp)
      have hr2 := h3.blk HR.out (by omega) (by simp)
      have hg2 := h3.blk HG.out hne (by simp)
      have hk2 := HK.out.trans h3 (.inl rfl)
      have hcl : ∃ u, w2.cell? ⟨w.heap.size + 1, i, none⟩ = some u := ⟨_, (blk_cell ha2 i).trans (by rw [List.getElem?_toArray]; exact List.getElem?_eq_getElem (by simp [arrV]; omega))⟩
      obtain ⟨u, hcl⟩ := hcl
      have hfl := blk_frozen ha2 i
      have ha3 := blk_set ha2 i (.int .i64 (ws.getD i 0))
      rw [arrV_set] at ha3
      have hr3 := blk_far hr2 (p := ⟨w.heap.size + 1, i, none⟩) (by show w.heap.size ≠ w.heap.size + 1; omega) (.int .i64 (ws.getD i 0))
      have hg3 := blk_far hg2 (p := ⟨w.heap.size + 1, i, none⟩) (by show gp ≠ w.heap.size + 1; omega) (.int .i64 (ws.getD i 0))
      have hI3 : IsBox w0 (w2.setCell ⟨w.heap.size + 1, i, none⟩ (.int .i64 (ws.getD i 0))) g 59 [] (ws.drop (i + 1)) (shortS ws s (i + 1)) := by
        obtain ⟨A, c, hg, h⟩ := h1
        exact ⟨A, c, blk_far hg (by show g ≠ w.heap.size + 1; omega) _, h⟩
      have hB3 : Below w0.heap.size w0 (w2.setCell ⟨w.heap.size + 1, i, none⟩ (.int .i64 (ws.getD i 0))) := below_set h2 (by omega)
      have hK3 : KeepBut w (w2.setCell ⟨w.heap.size + 1, i, none⟩ (.int .i64 (ws.getD i 0))) g none :=
        ⟨by have := hk2.1; simpa using this, fun k hk h1 h2 => (Below.heap_setCell _ _ _ _ (by show k ≠ w.heap.size + 1; omega)).trans (hk2.2 k hk h1 h2)⟩
      have HA3 := Aside0.mk ha3
      have HR3 := Aside0.mk hr3
      have HG3 := Aside0.mk hg3
      have HI3 := Aside0.mk hI3
      have HB3 := Aside0.mk hB3
      have HK3 := Aside0.mk hK3
      clear h1 h2 h3 ha2 hr2 hg2 hk2 ha3 hr3 hg3 hI3 hB3 hK3
      generalize ws.getD i 0 = x at *
      go_wp2
      go_roundw
      case rel => exact ⟨i + 1, by omega, by go_num, HA3, HR3, HI3, HG3, HB3, HK3⟩
      case measure => simp [intOf]; omega
    · obtain rfl : i = 7 := by omega
      have hv : ∀ j, 0 ≤ ws.getD j 0 ∧ ws.getD j 0 ≤ 4294967295 := fun j => by
        rw [List.getD_eq_getElem?_getD]
        cases h : ws[j]? with
        | none => simp
        | some x => exact HW.out x (List.mem_of_getElem? h)
      have hc0 : wr.cell? ⟨w.heap.size + 1, 0, none⟩ = some (.int .i64 (ws.getD 0 0)) := (blk_cell HA.out 0).trans (by simp [arrV])
      have hv0 := hv 0
      have hr0 := (blk_cell HR.out 0).trans rfl
      have hfr0 := blk_frozen HR.out 0
      have hc1 : wr.cell? ⟨w.heap.size + 1, 1, none⟩ = some (.int .i64 (ws.getD 1 0)) := (blk_cell HA.out 1).trans (by simp [arrV])
      have hv1 := hv 1
      have hr1 := (blk_cell HR.out 1).trans rfl
      have hfr1 := blk_frozen HR.out 1
      have hc2 : wr.cell? ⟨w.heap.size + 1, 2, none⟩ = some (.int .i64 (ws.getD 2 0)) := (blk_cell HA.out 2).trans (by simp [arrV])
      have hv2 := hv 2
      have hr2 := (blk_cell HR.out 2).trans rfl
      have hfr2 := blk_frozen HR.out 2
      have hc3 : wr.cell? ⟨w.heap.size + 1, 3, none⟩ = some (.int .i64 (ws.getD 3 0)) := (blk_cell HA.out 3).trans (by simp [arrV])
      have hv3 := hv 3
      have hr3 := (blk_cell HR.out 3).trans rfl
      have hfr3 := blk_frozen HR.out 3
      have hc4 : wr.cell? ⟨w.heap.size + 1, 4, none⟩ = some (.int .i64 (ws.getD 4 0)) := (blk_cell HA.out 4).trans (by simp [arrV])
      have hv4 := hv 4
      have hr4 := (blk_cell HR.out 4).trans rfl
      have hfr4 := blk_frozen HR.out 4
      have hc5 : wr.cell? ⟨w.heap.size + 1, 5, none⟩ = some (.int .i64 (ws.getD 5 0)) := (blk_cell HA.out 5).trans (by simp [arrV])
      have hv5 := hv 5
      have hr5 := (blk_cell HR.out 5).trans rfl
      have hfr5 := blk_frozen HR.out 5
      have hc6 : wr.cell? ⟨w.heap.size + 1, 6, none⟩ = some (.int .i64 (ws.getD 6 0)) := (blk_cell HA.out 6).trans (by simp [arrV])
      have hv6 := hv 6
      have hr6 := (blk_cell HR.out 6).trans rfl
      have hfr6 := blk_frozen HR.out 6
      have hc_ := HK.out.1
      have HV := Aside0.mk hv
      generalize hg0 : ws.getD 0 0 = x0 at *
      generalize hg1 : ws.getD 1 0 = x1 at *
      generalize hg2 : ws.getD 2 0 = x2 at *
      generalize hg3 : ws.getD 3 0 = x3 at *
      generalize hg4 : ws.getD 4 0 = x4 at *
      generalize hg5 : ws.getD 5 0 = x5 at *
      generalize hg6 : ws.getD 6 0 = x6 at *
      go_wp2
      have hf0 := (blk_set (blk_set (blk_set (blk_set (blk_set (blk_set (blk_set HR.out 0 (.int .i64 x0)) 1 (.int .i64 x1)) 2 (.int .i64 x2)) 3 (.int .i64 x3)) 4 (.int .i64 x4)) 5 (.int .i64 x5)) 6 (.int .u32 x6))
      have hz0 := (blk_cell hf0 0).trans rfl
      have hz1 := (blk_cell hf0 1).trans rfl
      have hz2 := (blk_cell hf0 2).trans rfl
      have hz3 := (blk_cell hf0 3).trans rfl
      have hz4 := (blk_cell hf0 4).trans rfl
      have hz5 := (blk_cell hf0 5).trans rfl
      have hz6 := (blk_cell hf0 6).trans rfl
      have hI3 : IsBox w0 (((((((wr.setCell ⟨w.heap.size, 0, none⟩ (.int .i64 x0)).setCell ⟨w.heap.size, 1, none⟩ (.int .i64 x1)).setCell ⟨w.heap.size, 2, none⟩ (.int .i64 x2)).setCell ⟨w.heap.size, 3, none⟩ (.int .i64 x3)).setCell ⟨w.heap.size, 4, none⟩ (.int .i64 x4)).setCell ⟨w.heap.size, 5, none⟩ (.int .i64 x5)).setCell ⟨w.heap.size, 6, none⟩ (.int .u32 x6)) g 59 [] (ws.drop 7) (shortS ws s 7) := by
        obtain ⟨A, c, hg, h⟩ := HI.out
        exact ⟨A, c, (blk_far (blk_far (blk_far (blk_far (blk_far (blk_far (blk_far hg (by show g ≠ w.heap.size; omega) _) (by show g ≠ w.heap.size; omega) _) (by show g ≠ w.heap.size; omega) _) (by show g ≠ w.heap.size; omega) _) (by show g ≠ w.heap.size; omega) _) (by show g ≠ w.heap.size; omega) _) (by show g ≠ w.heap.size; omega) _), h⟩
      have hB3 : Below w0.heap.size w0 (((((((wr.setCell ⟨w.heap.size, 0, none⟩ (.int .i64 x0)).setCell ⟨w.heap.size, 1, none⟩ (.int .i64 x1)).setCell ⟨w.heap.size, 2, none⟩ (.int .i64 x2)).setCell ⟨w.heap.size, 3, none⟩ (.int .i64 x3)).setCell ⟨w.heap.size, 4, none⟩ (.int .i64 x4)).setCell ⟨w.heap.size, 5, none⟩ (.int .i64 x5)).setCell ⟨w.heap.size, 6, none⟩ (.int .u32 x6)) := (below_set (below_set (below_set (below_set (below_set (below_set (below_set HB.out (by omega)) (by omega)) (by omega)) (by omega)) (by omega)) (by omega)) (by omega))
      have hK3 : KeepBut w (((((((wr.setCell ⟨w.heap.size, 0, none⟩ (.int .i64 x0)).setCell ⟨w.heap.size, 1, none⟩ (.int .i64 x1)).setCell ⟨w.heap.size, 2, none⟩ (.int .i64 x2)).setCell ⟨w.heap.size, 3, none⟩ (.int .i64 x3)).setCell ⟨w.heap.size, 4, none⟩ (.int .i64 x4)).setCell ⟨w.heap.size, 5, none⟩ (.int .i64 x5)).setCell ⟨w.heap.size, 6, none⟩ (.int .u32 x6)) g none := ⟨by have := HK.out.1; simpa using this, fun k hk h1 h2 => ((Below.heap_setCell _ _ _ _ (by show k ≠ w.heap.size; omega)).trans ((Below.heap_setCell _ _ _ _ (by show k ≠ w.heap.size; omega)).trans ((Below.heap_setCell _ _ _ _ (by show k ≠ w.heap.size; omega)).trans ((Below.heap_setCell _ _ _ _ (by show k ≠ w.heap.size; omega)).trans ((Below.heap_setCell _ _ _ _ (by show k ≠ w.heap.size; omega)).trans ((Below.heap_setCell _ _ _ _ (by show k ≠ w.heap.size; omega)).trans ((Below.heap_setCell _ _ _ _ (by show k ≠ w.heap.size; omega)).trans (HK.out.2 k hk h1 h2))))))))⟩
      generalize (((((((wr.setCell ⟨w.heap.size, 0, none⟩ (.int .i64 x0)).setCell ⟨w.heap.size, 1, none⟩ (.int .i64 x1)).setCell ⟨w.heap.size, 2, none⟩ (.int .i64 x2)).setCell ⟨w.heap.size, 3, none⟩ (.int .i64 x3)).setCell ⟨w.heap.size, 4, none⟩ (.int .i64 x4)).setCell ⟨w.heap.size, 5, none⟩ (.int .i64 x5)).setCell ⟨w.heap.size, 6, none⟩ (.int .u32 x6)) = wz at *
      (try simp only [Exit.inBlock, Exit.then])
      refine bodyPost_ret (by simp [results, Try.results34, go_sem, hz0, hz1, hz2, hz3, hz4, hz5, hz6]; try rfl) rfl ?_
      exact ⟨by rw [hg0, hg1, hg2, hg3, hg4, hg5, hg6], hI3, hB3, hK3⟩
end Go.Proofs.Ytbpmmabdjabfcaa.Table
