import Derived.Test.YtbpmmabdjabfcaaTableNext
import Derived.Handy
/- Package table: a partition's row, a window's, a channel's, read from the box. -/
namespace Go.Proofs.Ytbpmmabdjabfcaa.Table
open Go.RowKit Go.Proofs.YtbpmmabdjabfcaaW.PrintWords Go.Proofs.YtbpmmabdjabfcaaW.PrintMore Go.Proofs.Ytbpmmabdjabfcaa.Box
/-- Are there too few words for so many more? -/
def shortS (ws : List Int) (s : Bool) (k : Nat) : Bool := s || decide (ws.length < k)
set_option maxHeartbeats 1000000 in
theorem part_calls (w0 : World) (g gp : Nat) (ws : List Int) (s : Bool) (w : World) (hw : Words ws) (hI : IsBox w0 w g 59 [] ws s) (hgp : w.heap[gp]? = some (.cells #[.pointer (some ⟨g, 0, none⟩)] 57 (0, 0))) (hne : gp ≠ g) (hB : Below w0.heap.size w0 w) :
    Calls Try.prog 32 #[.func (.func 67) #[] #[.pointer (some ⟨gp, 0, none⟩)]] w fun e w' => e = .returned (.agg #[.int .i64 (nextV ws), .int .i64 (nextV ws.tail)]) ∧ IsBox w0 w' g 59 [] ws.tail.tail (nextS ws.tail (nextS ws s)) ∧ Below w0.heap.size w0 w' ∧ KeepBut w w' g none := by
  have HW := Aside0.mk hw
  have hgw : g < w.heap.size := by obtain ⟨A, c, hg, _⟩ := hI; exact blk_lt hg
  have hbn := blk_new w (.cells #[.int .i64 0, .int .i64 0] 64)
  have hb1 := below_alloc (Below.refl _ w) (.cells #[.int .i64 0, .int .i64 0] 64)
  have HI := Aside0.mk (hI.below hb1)
  have HG := Aside0.mk (blk_below hgp hb1)
  have HB := Aside0.mk (hB.trans (hb1.mono hB.size))
  clear hw hI hgp hB
  go_enter Try.func32, Try.ntmps32
  go_wp2_with fail
  refine (next_part w0 g gp ws s _ HW.out HI.out HG.out HB.out).mono ?_
  rintro e w1 ⟨rfl, h1, h2, h3⟩
  have HI1 := Aside0.mk h1
  have HB1 := Aside0.mk h2
  have HG1 := Aside0.mk (h3.blk HG.out hne (by simp))
  have hbn1 := h3.blk hbn (by omega) (by simp)
  have HK1 := Aside0.mk ((KeepBut.of_below hb1 g none).trans h3 (.inl rfl))
  clear h1 h2 h3 hbn hb1 HI HG HB
  go_wp2_with fail
  refine (next_part w0 g gp ws.tail (nextS ws s) _ HW.out.tail HI1.out HG1.out HB1.out).mono ?_
  rintro e w2 ⟨rfl, h1, h2, h3⟩
  have HI2 := Aside0.mk h1
  have HB2 := Aside0.mk h2
  have hbn2 := h3.blk hbn1 (by omega) (by simp)
  have HK2 := Aside0.mk (HK1.out.trans h3 (.inl rfl))
  have hc0 := (blk_cell hbn2 0).trans rfl
  have hc1 := (blk_cell hbn2 1).trans rfl
  have hf0 := blk_frozen hbn2 0
  have hf1 := blk_frozen hbn2 1
  clear h1 h2 h3 hbn1 HI1 HB1 HG1 HK1
  generalize hv1 : nextV ws = v1 at *
  generalize hv2 : nextV ws.tail = v2 at *
  go_wp2
  have hfin := blk_set (blk_set hbn2 0 (.int .i64 v1)) 1 (.int .i64 v2)
  have hd0 := (blk_cell hfin 0).trans rfl
  have hd1 := (blk_cell hfin 1).trans rfl
  have hI3 : IsBox w0 ((w2.setCell ⟨w.heap.size, 0, none⟩ (.int .i64 v1)).setCell ⟨w.heap.size, 1, none⟩ (.int .i64 v2)) g 59 [] ws.tail.tail (nextS ws.tail (nextS ws s)) := by
    obtain ⟨A, c, hg, h⟩ := HI2.out
    exact ⟨A, c, blk_far (blk_far hg (by show g ≠ w.heap.size; omega) _) (by show g ≠ w.heap.size; omega) _, h⟩
  have hge := HI2.out.ge
  have hB3 : Below w0.heap.size w0 ((w2.setCell ⟨w.heap.size, 0, none⟩ (.int .i64 v1)).setCell ⟨w.heap.size, 1, none⟩ (.int .i64 v2)) := below_set (below_set HB2.out (by omega)) (by omega)
  have hK3 : KeepBut w ((w2.setCell ⟨w.heap.size, 0, none⟩ (.int .i64 v1)).setCell ⟨w.heap.size, 1, none⟩ (.int .i64 v2)) g none :=
    ⟨by have := HK2.out.1; simpa using this, fun i hi h1 h2 => (Below.heap_setCell _ _ _ _ (by show i ≠ w.heap.size; omega)).trans ((Below.heap_setCell _ _ _ _ (by show i ≠ w.heap.size; omega)).trans (HK2.out.2 i hi h1 h2))⟩
  generalize (w2.setCell ⟨w.heap.size, 0, none⟩ (.int .i64 v1)).setCell ⟨w.heap.size, 1, none⟩ (.int .i64 v2) = w3 at *
  refine bodyPost_ret (by simp [results, Try.results32, go_sem, hd0, hd1]; try rfl) rfl ?_
  exact ⟨by rw [hv1, hv2], hI3, hB3, hK3⟩
end Go.Proofs.Ytbpmmabdjabfcaa.Table
