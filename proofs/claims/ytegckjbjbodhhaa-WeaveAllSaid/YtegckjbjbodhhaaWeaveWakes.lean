import Derived.Test.YtegckjbjbodhhaaWeaveTold
import Derived.Test.YtegckjbjbodhhaaSame
/- The example of layer 27 holds. -/
namespace Go.Proofs.Ytegckjbjbodhhaa.Weave
open Go.RowKit Go.Shelf Go.Proofs.YtegckjbjbodhhaaW.PrintWords Go.Proofs.YtegckjbjbodhhaaW.PrintMore Go.Proofs.Ytegckjbjbodhhaa.Box
theorem C_new {w : World} {g : Nat} {t : TypeId} {k : IntKind} {xs : List Int} (h : w.heap[g]? = some (.cells (xs.map (Value.int k)).toArray t (0, 0))) (hl : xs.length ≤ 9223372036854775807) : Kd.C (Kd.int k) w (some ⟨g, 0, none⟩) xs.length xs := by
  refine ⟨rfl, hl, fun _ => ⟨_, rfl, fun j p hj => ⟨[.int k p], rfl, rfl, fun i u hu => ?_⟩⟩⟩
  obtain ⟨hjl, hp⟩ := List.getElem?_eq_some_iff.1 hj
  have hi : i = 0 := by
    have := (List.getElem?_eq_some_iff.1 hu).1
    simpa using this
  subst hi
  have hu' : Value.int k p = u := by simpa using hu
  subst hu'
  rw [show (Kd.int k).sz = 1 from rfl, Nat.mul_one, Nat.add_zero, World.cell?]
  have e : ((⟨g, 0, none⟩ : Addr).add j).block = g ∧ ((⟨g, 0, none⟩ : Addr).add j).off = j ∧ ((⟨g, 0, none⟩ : Addr).add j).spot = none := by
    unfold Addr.add; split <;> simp_all
  rw [e.1, h, e.2.1, e.2.2]
  simp [List.getElem?_eq_getElem hjl, hp]
theorem told_11 : (allW 1 1).take (9 : Int).toNat = [[0, 1], [1, 0]] := by simp [allW, mayB, ways]
set_option maxHeartbeats 1000000 in
theorem wakes_calls (w : World) : Calls Try.prog 7 #[] w fun e w' => e = .returned (.bool true) ∧ Below w.heap.size w w' := by
  go_enter Try.func7, Try.ntmps7
  go_wp2_with fail
  refine (told_calls 1 1 9 w).mono ?_
  rintro e w1 ⟨v, rfl, hS, hB⟩
  rw [told_11] at hS
  obtain ⟨g, c, rfl, _, _, _⟩ := Kd.S_form hS (by simp)
  have hC := (Kd.S_reads' hS).2.2
  obtain ⟨ad, A0, c0, he, h0, hc0, hr0⟩ := PW.at_L1 hC 0 (by omega) (by simp)
  cases he
  obtain ⟨ad, A1, c1, he, h1, hc1, hr1⟩ := PW.at_L1 hC 1 (by omega) (by simp)
  cases he
  have h0 : w1.cell? ⟨g, 0, none⟩ = some (.slice A0 2 c0) := h0
  have h1 : w1.cell? ⟨g, 1, none⟩ = some (.slice A1 2 c1) := by rw [add_plain] at h1; exact h1
  have hr0 : Kd.C (Kd.int .i64) w1 A0 2 [0, 1] := hr0
  have hr1 : Kd.C (Kd.int .i64) w1 A1 2 [1, 0] := hr1
  have hb1 : Below w1.heap.size w1 (w1.alloc (.cells #[.int .i64 0, .int .i64 1] 3)) := below_alloc (Below.refl _ _) _
  have hn0 : Kd.C (Kd.int .i64) (w1.alloc (.cells #[.int .i64 0, .int .i64 1] 3)) (some ⟨w1.heap.size, 0, none⟩) 2 [0, 1] := C_new (xs := [0, 1]) (blk_new _ _) (by simp)
  have HB := Aside0.mk hB
  have HB1 := Aside0.mk hb1
  have HR0 := Aside0.mk hr0
  have HR1 := Aside0.mk hr1
  have HN0 := Aside0.mk hn0
  have HC0 := Aside0.mk (show 2 ≤ c0 from hc0)
  have HC1 := Aside0.mk (show 2 ≤ c1 from hc1)
  clear hS hC hc0 hc1 hr0 hr1 hb1 hn0 hB
  simp only [List.length_cons, List.length_nil]
  go_wp2_with fail
  refine (PW.portholeref01_Same.calls 5 A0 c0 [0, 1] (some ⟨w1.heap.size, 0, none⟩) 2 [0, 1] true _ (Kd.C_below HR0.out HB1.out) HC0.out HN0.out (Nat.le_refl _) (same_f 5 _ _ (by simp) (by simp))).mono ?_
  rintro e w2 ⟨rfl, hd⟩
  have hb2 := HB1.out.trans (hd.below.mono HB1.out.size)
  have hb3 : Below w1.heap.size w1 (w2.alloc (.cells #[.int .i64 1, .int .i64 0] 3)) := hb2.trans (below_alloc (Below.refl _ w2) _ |>.mono hb2.size)
  have h1' := pw_cell_below hb2 h1
  have hn1 : Kd.C (Kd.int .i64) (w2.alloc (.cells #[.int .i64 1, .int .i64 0] 3)) (some ⟨w2.heap.size, 0, none⟩) 2 [1, 0] := C_new (xs := [1, 0]) (blk_new _ _) (by simp)
  have HB3 := Aside0.mk hb3
  have HN1 := Aside0.mk hn1
  clear hb2 hb3 hn1 hd
  go_wp2_with fail
  refine (PW.portholeref01_Same.calls 5 A1 c1 [1, 0] (some ⟨w2.heap.size, 0, none⟩) 2 [1, 0] true _ (Kd.C_below HR1.out HB3.out) HC1.out HN1.out (Nat.le_refl _) (same_f 5 _ _ (by simp) (by simp))).mono ?_
  rintro e w3 ⟨rfl, hd⟩
  have HD := Aside0.mk hd.below
  clear hd
  go_wp2
  go_ret
  exact ⟨rfl, HB.out.trans ((HB3.out.trans (HD.out.mono HB3.out.size)).mono HB.out.size)⟩
end Go.Proofs.Ytegckjbjbodhhaa.Weave
