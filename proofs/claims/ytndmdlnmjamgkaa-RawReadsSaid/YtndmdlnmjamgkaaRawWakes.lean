import Derived.Test.YtndmdlnmjamgkaaClone
import Derived.Test.YtndmdlnmjamgkaaWMore
/- The example of layer 5 holds. -/
namespace Go.Proofs.Ytndmdlnmjamgkaa.Box
open Go.RowKit Go.Proofs.YtndmdlnmjamgkaaW.PrintWords Go.Proofs.YtndmdlnmjamgkaaW.PrintMore
theorem C_new {w : World} {g : Nat} {t : TypeId} {k : IntKind} {xs : List Int} (h : w.heap[g]? = some (.cells (xs.map (Value.int k)).toArray t (0, 0))) (hl : xs.length ≤ 9223372036854775807) : Kd.C (Kd.int k) w (some ⟨g, 0, none⟩) xs.length xs := by
  refine ⟨rfl, hl, fun _ => ⟨_, rfl, fun j p hj => ⟨[.int k p], rfl, rfl, fun i u hu => ?_⟩⟩⟩
  obtain ⟨hjl, hp⟩ := List.getElem?_eq_some_iff.1 hj
  have hi : i = 0 := by
    have := (List.getElem?_eq_some_iff.1 hu).1
    simpa using this
  subst hi
  have hu' : Value.int k p = u := by simpa using hu
  subst hu'
  rw [show (Kd.int k).sz = 1 from rfl, Nat.mul_one, Nat.add_zero, World.cell?]
  have e : ((⟨g, 0, none⟩ : Addr).add j).block = g ∧ ((⟨g, 0, none⟩ : Addr).add j).off = j ∧ ((⟨g, 0, none⟩ : Addr).add j).spot = none := by
    unfold Addr.add; split <;> simp_all
  rw [e.1, h, e.2.1, e.2.2]
  simp [List.getElem?_eq_getElem hjl, hp]
theorem isbox_new {w0 : World} {T : Nat} {A : Option Addr} {n c : Nat} {ws : List Int} (hn : n = ws.length) (hc : n ≤ c) (hr : Kd.C (Kd.int .u32) w0 A ws.length ws) {g : Nat} (hg : g = w0.heap.size) :
    IsBox w0 (w0.alloc (.cells #[.slice A n c, .bool false] T)) g T [] ws false := by
  subst hn hg
  exact ⟨A, c, blk_new _ _, Nat.le_refl _, hc, hr⟩
/-- What is read of a box, in W. -/
theorem IsBox.cells {w0 w : World} {g T : Nat} {rest : List Value} {ws : List Int} {s : Bool} (hI : IsBox w0 w g T rest ws s) (hB : Below w0.heap.size w0 w) : ∃ A c, w.cell? ⟨g, 0, none⟩ = some (.slice A ws.length c) ∧ w.cell? ⟨g, 1, none⟩ = some (.bool s) ∧ ws.length ≤ c ∧ Kd.C (Kd.int .u32) w A ws.length ws := by
  obtain ⟨A, c, hg, _, hc, hr⟩ := hI
  exact ⟨A, c, (blk_cell hg 0).trans rfl, (blk_cell hg 1).trans rfl, hc, Kd.C_below hr hB⟩
set_option maxHeartbeats 1000000 in
theorem wakes_calls (w : World) : Calls Try.prog 15 #[] w fun e w' => e = .returned (.bool true) ∧ Below w.heap.size w w' := by
  go_enter Try.func15, Try.ntmps15
  go_wp2_with fail
  obtain ⟨w0, hw0⟩ : ∃ w0, w0 = w.alloc (.cells #[.int .u32 7, .int .u32 8] 29) := ⟨_, rfl⟩
  have hz : w0.heap.size = w.heap.size + 1 := by rw [hw0]; simp
  have hC : Kd.C (Kd.int .u32) w0 (some ⟨w.heap.size, 0, none⟩) 2 [7, 8] := C_new (xs := [7, 8]) (by rw [hw0]; exact blk_new _ _) (by simp)
  have hB0 : Below w.heap.size w w0 := by rw [hw0]; exact below_alloc (Below.refl _ _) _
  rw [← hw0]
  have hI := isbox_new (T := 26) (n := 2) (c := 2) rfl (by omega) hC (g := w.heap.size + 1) hz.symm
  clear hw0
  have HB0 := Aside0.mk hB0
  have HZ := Aside0.mk hz
  clear hz hC hB0
  refine (next_any _ [] _ _ _ w0 _ hI (below_alloc (Below.refl _ _) _)).mono ?_
  clear hI
  rintro e w1 ⟨rfl, hI, hB, _⟩
  go_wp2_with fail
  refine (take_any _ [] _ _ _ 2 w0 _ hI hB (by simp)).mono ?_
  clear hI hB
  rintro e w2 ⟨v, rfl, hv, hI, hB, _⟩
  obtain ⟨A2, c2, hx0, hx1, _, _⟩ := hI.cells hB
  obtain ⟨A1, c1, rfl⟩ := Kd.R_slice hv
  have HI := Aside0.mk hI
  have HB := Aside0.mk hB
  clear hv hI hB hx0
  go_wp2_with fail
  refine (next_any _ [] _ _ _ w0 _ HI.out HB.out).mono ?_
  rintro e w3 ⟨rfl, _, hB3, _⟩
  have HB3 := Aside0.mk hB3
  clear hB3
  go_wp2
  go_ret
  exact ⟨rfl, HB0.out.trans (HB3.out.mono (by have := HZ.out; omega))⟩
end Go.Proofs.Ytndmdlnmjamgkaa.Box
