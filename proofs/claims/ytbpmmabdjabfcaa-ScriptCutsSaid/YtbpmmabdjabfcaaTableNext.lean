import Derived.Test.YtbpmmabdjabfcaaBox
/- Package table: the closures that read the next word of the box as a number. Written by wip/table.py. -/
namespace Go.Proofs.Ytbpmmabdjabfcaa.Table
open Go.RowKit Go.Proofs.YtbpmmabdjabfcaaW.PrintWords Go.Proofs.YtbpmmabdjabfcaaW.PrintMore Go.Proofs.Ytbpmmabdjabfcaa.Box
/-- Words: what may lie in a box. -/
def Words (ws : List Int) : Prop := ∀ x ∈ ws, 0 ≤ x ∧ x ≤ 4294967295
theorem Words.tail {ws : List Int} (h : Words ws) : Words ws.tail := fun x hx => h x (List.mem_of_mem_tail hx)
theorem Words.drop {ws : List Int} (h : Words ws) (n : Nat) : Words (ws.drop n) := fun x hx => h x (List.mem_of_mem_drop hx)
theorem Words.head {ws : List Int} (h : Words ws) : 0 ≤ nextV ws ∧ nextV ws ≤ 4294967295 := by
  cases ws with
  | nil => simp [nextV]
  | cons x r => exact h x (by simp)
/-- A function value that reads the next word of the box g as a number (gp: the box that holds the pointer). -/
def NextOk (w0 : World) (g gp : Nat) (f : Nat) : Prop := ∀ (ws : List Int) (s : Bool) (w : World), Words ws → IsBox w0 w g 59 [] ws s → w.heap[gp]? = some (.cells #[.pointer (some ⟨g, 0, none⟩)] 57 (0, 0)) → Below w0.heap.size w0 w →
  Calls Try.prog f #[.pointer (some ⟨gp, 0, none⟩)] w fun e w' => e = .returned (.int .i64 (nextV ws)) ∧ IsBox w0 w' g 59 [] ws.tail (nextS ws s) ∧ Below w0.heap.size w0 w' ∧ KeepBut w w' g none
theorem next_part (w0 : World) (g gp : Nat) : NextOk w0 g gp 67 := by
  intro ws s w hw hI hgp hB
  have hc := (blk_cell hgp 0).trans rfl
  have hv := hw.head
  have hn := next_any 59 [] g ws s w0 w hI hB
  generalize nextV ws = v at *
  have HN := Aside0.mk hn
  clear hI hgp hB hw hn
  go_enter Try.func67, Try.ntmps67
  go_wp2_with fail
  refine HN.out.mono ?_
  rintro e w1 ⟨rfl, h1, h2, h3⟩
  have H1 := Aside0.mk h1
  have H2 := Aside0.mk h2
  have H3 := Aside0.mk h3
  clear h1 h2 h3
  go_wp2
  go_ret
  exact ⟨rfl, H1.out, H2.out, H3.out⟩
theorem next_chan (w0 : World) (g gp : Nat) : NextOk w0 g gp 68 := by
  intro ws s w hw hI hgp hB
  have hc := (blk_cell hgp 0).trans rfl
  have hv := hw.head
  have hn := next_any 59 [] g ws s w0 w hI hB
  generalize nextV ws = v at *
  have HN := Aside0.mk hn
  clear hI hgp hB hw hn
  go_enter Try.func68, Try.ntmps68
  go_wp2_with fail
  refine HN.out.mono ?_
  rintro e w1 ⟨rfl, h1, h2, h3⟩
  have H1 := Aside0.mk h1
  have H2 := Aside0.mk h2
  have H3 := Aside0.mk h3
  clear h1 h2 h3
  go_wp2
  go_ret
  exact ⟨rfl, H1.out, H2.out, H3.out⟩
theorem next_window (w0 : World) (g gp : Nat) : NextOk w0 g gp 69 := by
  intro ws s w hw hI hgp hB
  have hc := (blk_cell hgp 0).trans rfl
  have hv := hw.head
  have hn := next_any 59 [] g ws s w0 w hI hB
  generalize nextV ws = v at *
  have HN := Aside0.mk hn
  clear hI hgp hB hw hn
  go_enter Try.func69, Try.ntmps69
  go_wp2_with fail
  refine HN.out.mono ?_
  rintro e w1 ⟨rfl, h1, h2, h3⟩
  have H1 := Aside0.mk h1
  have H2 := Aside0.mk h2
  have H3 := Aside0.mk h3
  clear h1 h2 h3
  go_wp2
  go_ret
  exact ⟨rfl, H1.out, H2.out, H3.out⟩
end Go.Proofs.Ytbpmmabdjabfcaa.Table
