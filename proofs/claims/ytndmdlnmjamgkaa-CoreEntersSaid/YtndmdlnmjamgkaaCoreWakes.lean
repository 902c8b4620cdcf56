import Derived.Test.YtndmdlnmjamgkaaCoreGreat
import Derived.Test.YtndmdlnmjamgkaaPCx1
/- Package portholelaw15: the example holds. -/
namespace Go.Proofs.Ytndmdlnmjamgkaa.Core
open Go.RowKit Go.Proofs.YtndmdlnmjamgkaaW.PrintWords Go.Proofs.YtndmdlnmjamgkaaW.PrintLast Go.Proofs.YtndmdlnmjamgkaaW.PrintMore Go.Proofs.Ytndmdlnmjamgkaa.PF Go.Proofs.Ytndmdlnmjamgkaa.Frame Go.Proofs.Ytndmdlnmjamgkaa.Box
set_option linter.unusedSimpArgs false
set_option linter.unusedVariables false
def fW : Fr := ⟨1, [⟨0, 0, 1⟩], 1, [⟨1, 0, 1⟩]⟩
theorem one_win {W : World} {h T : Nat} {x : S46} (hb : W.heap[h]? = some (.cells #[.int .i64 x.f0, .int .i64 x.f1, .int .i64 x.f2] T (0, 0))) : Kd.C k46 W (some ⟨h, 0, none⟩) 1 [x] := by
  refine ⟨rfl, by decide, fun _ => ⟨⟨h, 0, none⟩, rfl, fun j y hy => ?_⟩⟩
  cases j with
  | succ j => simp at hy
  | zero =>
    obtain rfl : x = y := by simpa using hy
    refine ⟨_, rfl, k46_mk W x, fun i u hu => ?_⟩
    match i, hu with
    | 0, hu => simp at hu; subst hu; exact (blk_cell hb 0).trans rfl
    | 1, hu => simp at hu; subst hu; exact (blk_cell hb 1).trans rfl
    | 2, hu => simp at hu; subst hu; exact (blk_cell hb 2).trans rfl
    | i + 3, hu => simp at hu
theorem ints_C {W : World} {h T : Nat} (hb : W.heap[h]? = some (.cells #[.int .i64 0, .int .i64 1] T (0, 0))) : Kd.C (Kd.int .i64) W (some ⟨h, 0, none⟩) 2 [0, 1] := by
  refine ⟨rfl, by decide, fun _ => ⟨⟨h, 0, none⟩, rfl, fun j y hy => ?_⟩⟩
  match j, hy with
  | 0, hy =>
    obtain rfl : 0 = y := by simpa using hy
    refine ⟨[.int .i64 0], rfl, rfl, fun i u hu => ?_⟩
    match i, hu with
    | 0, hu => simp at hu; subst hu; exact (blk_cell hb 0).trans rfl
    | i + 1, hu => simp at hu
  | 1, hy =>
    obtain rfl : 1 = y := by simpa using hy
    refine ⟨[.int .i64 1], rfl, rfl, fun i u hu => ?_⟩
    match i, hu with
    | 0, hu => simp at hu; subst hu; exact (blk_cell hb 1).trans rfl
    | i + 1, hu => simp at hu
  | j + 2, hy => simp at hy
set_option maxRecDepth 20000 in
set_option maxHeartbeats 4000000 in
theorem wakes_calls (w : World) : Calls Try.prog 38 #[] w fun e w' => e = .returned (.bool true) ∧ Below w.heap.size w w' := by
  have he1 : entV fW (0 + 1) = [0, 1] := by decide +kernel
  have he2 : entV fW (0 + 1 + 1) = [0, 1] := by decide +kernel
  have hs1 : PC.portholeref01_Same.f 5 [0, 1] [0, 1] = some true := by decide +kernel
  have HE := Aside0.mk (And.intro he1 (And.intro he2 hs1))
  clear he1 he2 hs1
  go_enter Try.func38, Try.ntmps38
  have hb1 := below_alloc (below_alloc (below_alloc (below_alloc (Below.refl _ w) (.cells #[.int .i64 0, .int .i64 0, .int .i64 1, .int .i64 0] 69)) (.cells #[.slice (some ⟨w.heap.size, 0, none⟩) 2 2, .slice none 0 0, .int .i64 1, .slice (some ⟨w.heap.size + 1 + 1, 0, none⟩) 1 1, .int .i64 1, .slice (some ⟨w.heap.size + 1 + 1 + 1, 0, none⟩) 1 1] 61)) (.cells #[.int .i64 0, .int .i64 0, .int .i64 1] 46)) (.cells #[.int .i64 1, .int .i64 0, .int .i64 1] 46)
  have hg1 := blk_alloc (blk_alloc (blk_new (w.alloc (.cells #[.int .i64 0, .int .i64 0, .int .i64 1, .int .i64 0] 69)) (.cells #[.slice (some ⟨w.heap.size, 0, none⟩) 2 2, .slice none 0 0, .int .i64 1, .slice (some ⟨w.heap.size + 1 + 1, 0, none⟩) 1 1, .int .i64 1, .slice (some ⟨w.heap.size + 1 + 1 + 1, 0, none⟩) 1 1] 61)) (.cells #[.int .i64 0, .int .i64 0, .int .i64 1] 46)) (.cells #[.int .i64 1, .int .i64 0, .int .i64 1] 46)
  have hg2 := blk_alloc (blk_new ((w.alloc (.cells #[.int .i64 0, .int .i64 0, .int .i64 1, .int .i64 0] 69)).alloc (.cells #[.slice (some ⟨w.heap.size, 0, none⟩) 2 2, .slice none 0 0, .int .i64 1, .slice (some ⟨w.heap.size + 1 + 1, 0, none⟩) 1 1, .int .i64 1, .slice (some ⟨w.heap.size + 1 + 1 + 1, 0, none⟩) 1 1] 61)) (.cells #[.int .i64 0, .int .i64 0, .int .i64 1] 46)) (.cells #[.int .i64 1, .int .i64 0, .int .i64 1] 46)
  have hg3 := blk_new (((w.alloc (.cells #[.int .i64 0, .int .i64 0, .int .i64 1, .int .i64 0] 69)).alloc (.cells #[.slice (some ⟨w.heap.size, 0, none⟩) 2 2, .slice none 0 0, .int .i64 1, .slice (some ⟨w.heap.size + 1 + 1, 0, none⟩) 1 1, .int .i64 1, .slice (some ⟨w.heap.size + 1 + 1 + 1, 0, none⟩) 1 1] 61)).alloc (.cells #[.int .i64 0, .int .i64 0, .int .i64 1] 46)) (.cells #[.int .i64 1, .int .i64 0, .int .i64 1] 46)
  rw [World.size_alloc] at hg1
  rw [World.size_alloc, World.size_alloc] at hg2
  rw [World.size_alloc, World.size_alloc, World.size_alloc] at hg3
  have HB1 := Aside0.mk hb1
  have HG1 := Aside0.mk hg1
  have HK2 := Aside0.mk (one_win (x := ⟨0, 0, 1⟩) hg2)
  have HK3 := Aside0.mk (one_win (x := ⟨1, 0, 1⟩) hg3)
  clear hb1 hg1 hg2 hg3
  go_upto_region 4 with fail
  generalize ((((w.alloc (.cells #[.int .i64 0, .int .i64 0, .int .i64 1, .int .i64 0] 69)).alloc (.cells #[.slice (some ⟨w.heap.size, 0, none⟩) 2 2, .slice none 0 0, .int .i64 1, .slice (some ⟨w.heap.size + 1 + 1, 0, none⟩) 1 1, .int .i64 1, .slice (some ⟨w.heap.size + 1 + 1 + 1, 0, none⟩) 1 1] 61)).alloc (.cells #[.int .i64 0, .int .i64 0, .int .i64 1] 46)).alloc (.cells #[.int .i64 1, .int .i64 0, .int .i64 1] 46)) = wa at *
  have HN := Aside0.mk (new_calls wa (some ⟨w.heap.size, 0, none⟩) 2 2 none 0 0 fW (some ⟨w.heap.size + 1 + 1, 0, none⟩) 1 (some ⟨w.heap.size + 1 + 1 + 1, 0, none⟩) 1 (by decide) (by decide) HK2.out HK3.out (by decide) (by decide))
  have ha0 := (blk_cell HG1.out 0).trans rfl
  have ha1 := (blk_cell HG1.out 1).trans rfl
  have ha2 := (blk_cell HG1.out 2).trans rfl
  have ha3 := (blk_cell HG1.out 3).trans rfl
  have ha4 := (blk_cell HG1.out 4).trans rfl
  have ha5 := (blk_cell HG1.out 5).trans rfl
  go_wp2_with fail
  refine HN.out.mono ?_
  rintro e w1 ⟨rfl, hck⟩
  have HC1 := Aside0.mk hck
  have HT1 := Aside0.mk (tick_calls hck (by decide))
  have hge := hck.lt
  clear hck HN ha0 ha1 ha2 ha3 ha4 ha5
  go_wp2_with fail
  refine HT1.out.mono ?_
  rintro e w2 ⟨A, n, c, rfl, ho, hck, hkb, hbw⟩
  rw [HE.out.1] at ho
  obtain rfl := (Kd.R_reads' ho).1
  have HO := Aside0.mk ho
  have HC2 := Aside0.mk (hck.to (below_alloc (Below.refl _ w2) (.cells #[.int .i64 0, .int .i64 1] 3)))
  have HOr := Aside0.mk (Kd.R_reads' (Kd.R_below ho (below_alloc (Below.refl _ w2) (.cells #[.int .i64 0, .int .i64 1] 3))))
  have HS := Aside0.mk (PC.portholeref01_Same.calls 5 A c [0, 1] (some ⟨w2.heap.size, 0, none⟩) 2 [0, 1] true (w2.alloc (.cells #[.int .i64 0, .int .i64 1] 3)) HOr.out.2.2 HOr.out.2.1 (ints_C (blk_new w2 _)) (by decide) HE.out.2.2)
  clear ho hck hkb hbw HT1 HC1
  go_wp2_with fail
  refine HS.out.mono ?_
  rintro e w3 ⟨rfl, hdr⟩
  obtain ⟨nd, hnd⟩ := hdr.out
  have hbd := pw_below_drewN (Below.refl (w2.alloc (.cells #[.int .i64 0, .int .i64 1] 3)).heap.size (w2.alloc (.cells #[.int .i64 0, .int .i64 1] 3))) nd
  rw [← hnd] at hbd
  have hck := HC2.out.to hbd
  have HT2 := Aside0.mk (tick_calls hck (by decide))
  clear hdr hnd hbd HS HC2 HO HOr
  go_wp2_with fail
  refine HT2.out.mono ?_
  rintro e w4 ⟨A', n', c', rfl, ho, hck2, hkb, hbw⟩
  rw [HE.out.2.1] at ho
  obtain rfl := (Kd.R_reads' ho).1
  have HC4 := Aside0.mk (hck2.to (below_alloc (Below.refl _ w4) (.cells #[.int .i64 0, .int .i64 1] 3)))
  have HOr := Aside0.mk (Kd.R_reads' (Kd.R_below ho (below_alloc (Below.refl _ w4) (.cells #[.int .i64 0, .int .i64 1] 3))))
  have HS := Aside0.mk (PC.portholeref01_Same.calls 5 A' c' [0, 1] (some ⟨w4.heap.size, 0, none⟩) 2 [0, 1] true (w4.alloc (.cells #[.int .i64 0, .int .i64 1] 3)) HOr.out.2.2 HOr.out.2.1 (ints_C (blk_new w4 _)) (by decide) HE.out.2.2)
  clear ho hck hck2 hkb hbw HT2
  go_wp2_with fail
  refine HS.out.mono ?_
  rintro e w5 ⟨rfl, hdr⟩
  obtain ⟨nd, hnd⟩ := hdr.out
  have hbd := pw_below_drewN (Below.refl (w4.alloc (.cells #[.int .i64 0, .int .i64 1] 3)).heap.size (w4.alloc (.cells #[.int .i64 0, .int .i64 1] 3))) nd
  rw [← hnd] at hbd
  have HCz := Aside0.mk (HC4.out.to hbd)
  clear hdr hnd hbd
  go_wp2
  go_ret
  exact ⟨rfl, HB1.out.trans (HCz.out.bel.mono HB1.out.size)⟩
end Go.Proofs.Ytndmdlnmjamgkaa.Core
