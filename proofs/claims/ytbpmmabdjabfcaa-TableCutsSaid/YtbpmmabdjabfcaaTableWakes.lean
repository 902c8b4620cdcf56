import Derived.Test.YtbpmmabdjabfcaaTableParse
/- Package portholelaw06: the examples hold. -/
namespace Go.Proofs.Ytbpmmabdjabfcaa.Table
open Go.RowKit Go.Proofs.YtbpmmabdjabfcaaW.PrintWords Go.Proofs.YtbpmmabdjabfcaaW.PrintLast Go.Proofs.YtbpmmabdjabfcaaW.PrintMore Go.Proofs.Ytbpmmabdjabfcaa.Box Go.Proofs.Ytbpmmabdjabfcaa.PT
set_option linter.unusedSimpArgs false
set_option linter.unusedVariables false
theorem zeros_C {W : World} {g T n : Nat} (hn : n ≤ 1000) (h : W.heap[g]? = some (.cells (List.replicate n (.int .u32 0)).toArray T (0, 0))) : Kd.C (Kd.int .u32) W (some ⟨g, 0, none⟩) n (List.replicate n 0) := by
  refine ⟨by simp, by omega, fun _ => ⟨⟨g, 0, none⟩, rfl, fun j y hy => ⟨[.int .u32 0], rfl, ?_, fun q u hu => ?_⟩⟩⟩
  · obtain ⟨hj, rfl⟩ := List.getElem?_eq_some_iff.1 hy
    simp only [List.getElem_replicate]
    exact rfl
  · obtain ⟨hj, rfl⟩ := List.getElem?_eq_some_iff.1 hy
    rw [List.length_replicate] at hj
    cases q with
    | succ q => simp at hu
    | zero =>
      simp at hu
      subst hu
      have hc := blk_cell h j
      rw [List.getElem?_toArray, List.getElem?_eq_getElem (by rw [List.length_replicate]; exact hj), List.getElem_replicate] at hc
      cases j <;> simpa [Addr.add, Kd.int, Kd.scalar] using hc
theorem info_u32 : (Try.prog.info? 43).map (fun i => (i.zero, i.size, i.bytes)) = some (some (.int .u32 0), 1, 4) := by kernel_rfl
theorem make_u32 (m : Nat) (hm : m ≤ 1000) (W : World) : (Instr.makeSlice 22 (.int .i64 (m : Int)) (.int .i64 (m : Int))).run Try.prog W = .ok (.slice (some ⟨W.heap.size, 0, none⟩) m m) (W.alloc (.cells (madeCells #[.int .u32 0] m) 43)) :=
  print_make 22 43 .u32 4 Try.underlying22 info_u32 (by decide) m (by omega) W
theorem made6 : madeCells #[.int .u32 0] 6 = #[.int .u32 0, .int .u32 0, .int .u32 0, .int .u32 0, .int .u32 0, .int .u32 0] := by kernel_rfl
theorem made5 : madeCells #[.int .u32 0] 5 = #[.int .u32 0, .int .u32 0, .int .u32 0, .int .u32 0, .int .u32 0] := by kernel_rfl
/-- A configuration without rows. -/
theorem isCfg_any {w : World} {c : Cfg} {cs : Array Value} (h : IsCfg w c cs) : ∃ A0 n0 c0 A1 n1 c1 l0 A2 n2 c2 l1 A3 n3 c3, cs = #[.slice A0 n0 c0, .slice A1 n1 c1, .int .i64 l0, .slice A2 n2 c2, .int .i64 l1, .slice A3 n3 c3] := by
  obtain ⟨A0, c0, A1, c1, A2, c2, A3, c3, rfl, _⟩ := h
  exact ⟨_, _, _, _, _, _, _, _, _, _, _, _, _, _, rfl⟩
theorem isCfg_empty {w : World} {c : Cfg} {cs : Array Value} (h : IsCfg w c cs) (h0 : c.ps.length = 0) (h1 : c.xs.length = 0) : ∃ A0 c0 A1 c1 l0 A2 n2 c2 l1 A3 n3 c3, cs = #[.slice A0 0 c0, .slice A1 0 c1, .int .i64 l0, .slice A2 n2 c2, .int .i64 l1, .slice A3 n3 c3] := by
  obtain ⟨A0, c0, A1, c1, A2, c2, A3, c3, rfl, _⟩ := h
  rw [h0, h1]
  exact ⟨_, _, _, _, _, _, _, _, _, _, _, _, rfl⟩
set_option maxRecDepth 20000 in
set_option maxHeartbeats 1000000 in
theorem wakes_calls (w : World) : Calls Try.prog 13 #[] w fun e w' => e = .returned (.bool true) ∧ Below w.heap.size w w' := by
  have m6 : ∀ W : World, (Instr.makeSlice 22 (.int .i64 6) (.int .i64 6)).run Try.prog W = .ok (.slice (some ⟨W.heap.size, 0, none⟩) 6 6) (W.alloc (.cells #[.int .u32 0, .int .u32 0, .int .u32 0, .int .u32 0, .int .u32 0, .int .u32 0] 43)) := fun W => by
    have h := make_u32 6 (by decide) W
    rw [made6] at h
    exact h
  have m5 : ∀ W : World, (Instr.makeSlice 22 (.int .i64 5) (.int .i64 5)).run Try.prog W = .ok (.slice (some ⟨W.heap.size, 0, none⟩) 5 5) (W.alloc (.cells #[.int .u32 0, .int .u32 0, .int .u32 0, .int .u32 0, .int .u32 0] 43)) := fun W => by
    have h := make_u32 5 (by decide) W
    rw [made5] at h
    exact h
  have hp6 := fun (W : World) (A : Option Addr) (h : Kd.C (Kd.int .u32) W A 6 (List.replicate 6 0)) => parse_calls A 6 (List.replicate 6 0) W (fun x hx => by rw [List.eq_of_mem_replicate hx]; decide) (by decide) h
  have hp5 := fun (W : World) (A : Option Addr) (h : Kd.C (Kd.int .u32) W A 5 (List.replicate 5 0)) => parse_calls A 5 (List.replicate 5 0) W (fun x hx => by rw [List.eq_of_mem_replicate hx]; decide) (by decide) h
  have e6 : parseE (List.replicate 6 0) = 0 := by decide +kernel
  have e5 : parseE (List.replicate 5 0) = 8 := by decide +kernel
  have l0 : (parseR (List.replicate 6 0)).ps.length = 0 := by decide +kernel
  have l1 : (parseR (List.replicate 6 0)).xs.length = 0 := by decide +kernel
  rw [e6] at hp6
  rw [e5] at hp5
  have H6 := Aside0.mk hp6
  have H5 := Aside0.mk hp5
  have HL := Aside0.mk (And.intro l0 l1)
  clear hp6 hp5 e6 e5 l0 l1
  go_enter Try.func13, Try.ntmps13
  go_wp2_with fail
  have hc6 := zeros_C (W := w.alloc (.cells #[.int .u32 0, .int .u32 0, .int .u32 0, .int .u32 0, .int .u32 0, .int .u32 0] 43)) (n := 6) (by decide) (blk_new w (.cells (List.replicate 6 (.int .u32 0)).toArray 43))
  refine (H6.out _ _ hc6).mono ?_
  rintro e w1 ⟨cs, rfl, h1, h2⟩
  obtain ⟨A0, c0, A1, c1, l0, A2, n2, c2, l1, A3, n3, c3, rfl⟩ := isCfg_empty h1 HL.out.1 HL.out.2
  have HB1 := Aside0.mk ((below_alloc (Below.refl _ w) (.cells #[.int .u32 0, .int .u32 0, .int .u32 0, .int .u32 0, .int .u32 0, .int .u32 0] 43)).trans (h2.mono (by simp)))
  clear h1 h2 hc6
  have hg1 := blk_new w1 (.cells #[.slice A0 0 c0, .slice A1 0 c1, .int .i64 l0, .slice A2 n2 c2, .int .i64 l1, .slice A3 n3 c3] 31)
  have hb1 := below_alloc (Below.refl _ w1) (.cells #[.slice A0 0 c0, .slice A1 0 c1, .int .i64 l0, .slice A2 n2 c2, .int .i64 l1, .slice A3 n3 c3] 31)
  have HG1 := Aside0.mk hg1
  have HB2 := Aside0.mk (HB1.out.trans (hb1.mono HB1.out.size))
  clear hg1 hb1
  have hlt := HG1.out
  have hq := blk_lt hlt
  clear hlt
  go_wp2_with fail
  have hc5 := zeros_C (W := (w1.alloc (.cells #[.slice A0 0 c0, .slice A1 0 c1, .int .i64 l0, .slice A2 n2 c2, .int .i64 l1, .slice A3 n3 c3] 31)).alloc (.cells #[.int .u32 0, .int .u32 0, .int .u32 0, .int .u32 0, .int .u32 0] 43)) (n := 5) (by decide) (blk_new (w1.alloc (.cells #[.slice A0 0 c0, .slice A1 0 c1, .int .i64 l0, .slice A2 n2 c2, .int .i64 l1, .slice A3 n3 c3] 31)) (.cells (List.replicate 5 (.int .u32 0)).toArray 43))
  rw [World.size_alloc] at hc5
  refine (H5.out _ _ hc5).mono ?_
  rintro e w3 ⟨cs, rfl, h1, h2⟩
  obtain ⟨B0, m0, d0, B1, m1, d1, k0, B2, m2, d2, k1, B3, m3, d3, rfl⟩ := isCfg_any h1
  have hb2 := below_alloc (Below.refl _ (w1.alloc (.cells #[.slice A0 0 c0, .slice A1 0 c1, .int .i64 l0, .slice A2 n2 c2, .int .i64 l1, .slice A3 n3 c3] 31))) (.cells #[.int .u32 0, .int .u32 0, .int .u32 0, .int .u32 0, .int .u32 0] 43)
  have hb3 := hb2.trans (h2.mono (by rw [World.size_alloc _ (.cells #[.int .u32 0, .int .u32 0, .int .u32 0, .int .u32 0, .int .u32 0] 43)]; omega))
  have HG3 := Aside0.mk (blk_below HG1.out hb3)
  have HB3 := Aside0.mk (HB2.out.trans (hb3.mono HB2.out.size))
  have hz0 : w3.cell? ⟨w1.heap.size, 0, none⟩ = some (.slice A0 0 c0) := (blk_cell HG3.out 0).trans rfl
  have hz1 : w3.cell? ⟨w1.heap.size, 1, none⟩ = some (.slice A1 0 c1) := (blk_cell HG3.out 1).trans rfl
  have hz0' := kal hz0 (.cells #[.slice B0 m0 d0, .slice B1 m1 d1, .int .i64 k0, .slice B2 m2 d2, .int .i64 k1, .slice B3 m3 d3] 31)
  have hz1' := kal hz1 (.cells #[.slice B0 m0 d0, .slice B1 m1 d1, .int .i64 k0, .slice B2 m2 d2, .int .i64 k1, .slice B3 m3 d3] 31)
  have HB4 := Aside0.mk (HB3.out.trans ((below_alloc (Below.refl _ w3) (.cells #[.slice B0 m0 d0, .slice B1 m1 d1, .int .i64 k0, .slice B2 m2 d2, .int .i64 k1, .slice B3 m3 d3] 31)).mono HB3.out.size))
  clear h1 h2 hb2 hb3 hc5
  go_wp2
  go_ret
  exact ⟨rfl, HB4.out⟩
end Go.Proofs.Ytbpmmabdjabfcaa.Table
