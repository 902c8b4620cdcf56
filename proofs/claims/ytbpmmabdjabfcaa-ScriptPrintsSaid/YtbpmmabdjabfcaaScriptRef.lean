import Derived.Test.YtbpmmabdjabfcaaScriptRefPure
/- Package portholeref25: its box, in plain words. Written by wip/scriptref.py. -/
namespace Go.Proofs.Ytbpmmabdjabfcaa.Script
open Go.RowKit Go.Proofs.YtbpmmabdjabfcaaW.PrintWords Go.Proofs.YtbpmmabdjabfcaaW.PrintLast Go.Proofs.YtbpmmabdjabfcaaW.PrintMore Go.Proofs.Ytbpmmabdjabfcaa.Box Go.Proofs.Ytbpmmabdjabfcaa.PT Go.Proofs.Ytbpmmabdjabfcaa.Table
set_option linter.unusedSimpArgs false
set_option linter.unusedVariables false
/-- Block g is a box of these words at this place, with this error. -/
def IsRb (w0 W : World) (g : Nat) (ws : List Int) (at_ : Nat) (e : Int) : Prop := ∃ A c, W.heap[g]? = some (.cells #[.slice A ws.length c, .int .i64 (at_ : Int), .int .i64 e] 106 (0, 0)) ∧ w0.heap.size ≤ g ∧ ws.length ≤ c ∧ Kd.C (Kd.int .u32) w0 A ws.length ws
structure Rb (w0 W : World) (g : Nat) (ws : List Int) (at_ : Nat) (e : Int) (w' : World) : Prop where
  rb : IsRb w0 w' g ws at_ e
  bel : Below w0.heap.size w0 w'
  keep : KeepBut W w' g none
theorem IsRb.to {w0 W W' : World} {g : Nat} {ws : List Int} {at_ : Nat} {e : Int} (h : IsRb w0 W g ws at_ e) (hb : Below W.heap.size W W') : IsRb w0 W' g ws at_ e := by
  obtain ⟨A, c, hg, r⟩ := h
  exact ⟨A, c, blk_below hg hb, r⟩
theorem IsRb.setA {w0 W : World} {g : Nat} {ws : List Int} {at_ : Nat} {e : Int} (h : IsRb w0 W g ws at_ e) (n : Nat) : IsRb w0 (W.setCell ⟨g, 1, none⟩ (.int .i64 (n : Int))) g ws n e := by
  obtain ⟨A, c, hg, r⟩ := h
  exact ⟨A, c, blk_put hg 1 _ rfl, r⟩
theorem IsRb.setE {w0 W : World} {g : Nat} {ws : List Int} {at_ : Nat} {e : Int} (h : IsRb w0 W g ws at_ e) (n : Int) : IsRb w0 (W.setCell ⟨g, 2, none⟩ (.int .i64 n)) g ws at_ n := by
  obtain ⟨A, c, hg, r⟩ := h
  exact ⟨A, c, blk_put hg 2 _ rfl, r⟩
theorem IsRb.ge {w0 W : World} {g : Nat} {ws : List Int} {at_ : Nat} {e : Int} (h : IsRb w0 W g ws at_ e) : w0.heap.size ≤ g := by
  obtain ⟨A, c, hg, r, _⟩ := h
  exact r
set_option maxHeartbeats 2000000 in
theorem rnext_calls (w0 W : World) (g : Nat) (ws : List Int) (a : Nat) (e : Int) (hl : ws.length ≤ 1000000) (ha : a ≤ ws.length) (h : IsRb w0 W g ws a e) (hB : Below w0.heap.size w0 W) :
    Calls Try.prog 57 #[.pointer (some ⟨g, 0, none⟩)] W fun e' w' => e' = .returned (.int .u32 (rnV ws a e)) ∧ Rb w0 W g ws (rnA ws a e) (rnE ws a e) w' := by
  have HI := Aside0.mk h
  have HG := Aside0.mk h.ge
  have HB := Aside0.mk hB
  obtain ⟨A, c, hg, hge, hc, hr⟩ := h
  have hc0 : W.cell? ⟨g, 0, none⟩ = some (.slice A ws.length c) := (blk_cell hg 0).trans rfl
  have hc1 : W.cell? ⟨g, 1, none⟩ = some (.int .i64 (a : Int)) := (blk_cell hg 1).trans rfl
  have hc2 : W.cell? ⟨g, 2, none⟩ = some (.int .i64 e) := (blk_cell hg 2).trans rfl
  have HK := Aside0.mk hg
  unfold rnV rnA rnE
  by_cases he : e = 0
  · subst he
    rw [if_pos rfl, if_pos rfl, if_pos rfl]
    by_cases hlt : a < ws.length
    · rw [if_pos hlt, if_pos hlt, if_pos hlt]
      have HS := Aside0.mk (HI.out.setA (a + 1))
      obtain ⟨x, hx⟩ : ∃ x : Int, x = (a : Int) := ⟨_, rfl⟩
      have hs : ((a + 1 : Nat) : Int) = x + 1 := by omega
      rw [hs] at HS
      rw [← hx] at hc1 HK
      have hi0 : 0 ≤ x := by omega
      have hi1 : x < (ws.length : Int) := by omega
      obtain ⟨ad, rfl, hword⟩ := Kd.at_int hr x hi0 hi1
      have hxn : x.toNat = a := by omega
      obtain ⟨v, hv⟩ : ∃ v, ws.getD a 0 = v := ⟨_, rfl⟩
      rw [show rd ws x = v from by unfold rd; rw [hxn, hv]] at hword
      rw [hv]
      have HWD := Aside0.mk (pw_cell_below ((hB.setCell (p := ⟨g, 1, none⟩) hge (.int .i64 (x + 1))).drew.drew) hword)
      have HK2 := Aside0.mk ((blk_set HK.out 1 (.int .i64 (x + 1))).trans rfl)
      have hf1 := blk_frozen hg 1
      obtain ⟨n, hn⟩ : ∃ n, ws.length = n := ⟨_, rfl⟩
      rw [hn] at hc0 HK HK2 hi1
      have hd : decide ((n : Int) ≤ x) = false := decide_eq_false (by omega)
      have hi2 : decide (x < (n : Int)) = true := decide_eq_true hi1
      have hw1 : wrap64 (x + 1) = x + 1 := by unfold wrap64; omega
      have hw2 : wrap64 (x + 1 - 1) = x := by unfold wrap64; omega
      have hw3 : wrap64 x = x := by unfold wrap64; omega
      clear hg hc hr hge hlt ha hl hB hs hx hxn hv hword hn
      go_enter Try.func57, Try.ntmps57
      go_upto_region 3 with fail
      refine start_ (n := 10) (S := fun w' => w'.cell? ⟨g, 1, none⟩ = some (.int .i64 x) ∧ w'.cell? ⟨g, 0, none⟩ = some (.slice (some ad) n c)) (ds := []) #[false, false, false, false, false, false, false, false, false, false] (by kernel_rfl) rfl rfl ⟨(blk_cell (blk_below HK.out (below_drew1 (Below.refl _ _))) 1).trans rfl, (blk_cell (blk_below HK.out (below_drew1 (Below.refl _ _))) 0).trans rfl⟩ (fun hHeld => ?_)
      refine pure_ (i := 0) (N := some 8) (v := ?_) (a' := ?_) #[true, false, false, false, false, false, false, false, false, false] rfl rfl (by kernel_rfl) (fun _ _ _ h => h) (Or.inl ⟨by rfl, ?_⟩) ?_ ?_
      rotate_left
      · intro w'
        go_simp
        with_reducible rfl
      rotate_left
      · simp only [Act.put, List.setIfInBounds_toArray, List.set_cons_zero, List.set_cons_succ, i64_w, i32_w]
        rfl
      refine pure_ (i := 1) (N := some 9) (v := ?_) (a' := ?_) #[true, true, false, false, false, false, false, false, false, false] rfl rfl (by kernel_rfl) (fun _ _ _ h => h) (Or.inl ⟨by rfl, ?_⟩) ?_ ?_
      rotate_left
      · intro w'
        go_simp
        with_reducible rfl
      rotate_left
      · simp only [Act.put, List.setIfInBounds_toArray, List.set_cons_zero, List.set_cons_succ, i64_w, i32_w]
        rfl
      refine pure_ (i := 2) (N := some 10) (v := ?_) (a' := ?_) #[true, true, true, false, false, false, false, false, false, false] rfl rfl (by kernel_rfl) (fun _ _ _ h => h) (Or.inl ⟨by rfl, ?_⟩) ?_ ?_
      rotate_left
      · intro w'
        go_simp
        with_reducible rfl
      rotate_left
      · simp only [Act.put, List.setIfInBounds_toArray, List.set_cons_zero, List.set_cons_succ, i64_w, i32_w]
        rfl
      refine pure_ (i := 4) (N := some 12) (v := ?_) (a' := ?_) #[true, true, true, false, true, false, false, false, false, false] rfl rfl (by kernel_rfl) (fun _ _ _ h => h) (Or.inl ⟨by rfl, ?_⟩) ?_ ?_
      rotate_left
      · intro w'
        go_simp
        with_reducible rfl
      rotate_left
      · simp only [Act.put, List.setIfInBounds_toArray, List.set_cons_zero, List.set_cons_succ, i64_w, i32_w]
        rfl
      refine pure_ (i := 5) (N := some 13) (v := ?_) (a' := ?_) #[true, true, true, false, true, true, false, false, false, false] rfl rfl (by kernel_rfl) (fun _ _ _ h => h) (Or.inl ⟨by rfl, ?_⟩) ?_ ?_
      rotate_left
      · intro w'
        go_simp
        with_reducible rfl
      rotate_left
      · simp only [Act.put, List.setIfInBounds_toArray, List.set_cons_zero, List.set_cons_succ, i64_w, i32_w]
        rfl
      refine pure_ (i := 6) (N := some 14) (v := ?_) (a' := ?_) #[true, true, true, false, true, true, true, false, false, false] rfl rfl (by kernel_rfl) (fun _ _ _ h => h) (Or.inl ⟨by rfl, ?_⟩) ?_ ?_
      rotate_left
      · intro w'
        go_simp
        with_reducible rfl
      rotate_left
      · simp only [Act.put, List.setIfInBounds_toArray, List.set_cons_zero, List.set_cons_succ, i64_w, i32_w]
        rfl
      refine take_ (i := 3) (N := some 11) (v := ?_) (a' := ?_) #[true, true, true, true, true, true, true, false, false, false] rfl rfl (by kernel_rfl) (fun _ _ _ h => h) (Or.inl ⟨by rfl, ?_⟩) hHeld ?_ ?_
      rotate_left
      · rintro w' ⟨s0, s1⟩
        go_simp
        with_reducible rfl
      rotate_left
      · simp only [Act.put, List.setIfInBounds_toArray, List.set_cons_zero, List.set_cons_succ, i64_w, i32_w]
        rfl
      refine take_ (i := 7) (N := some 15) (v := ?_) (a' := ?_) #[true, true, true, true, true, true, true, true, false, false] rfl rfl (by kernel_rfl) (fun _ _ _ h => h) (Or.inl ⟨by rfl, ?_⟩) hHeld ?_ ?_
      rotate_left
      · rintro w' ⟨s0, s1⟩
        go_simp
        with_reducible rfl
      rotate_left
      · simp only [Act.put, List.setIfInBounds_toArray, List.set_cons_zero, List.set_cons_succ, i64_w, i32_w]
        rfl
      refine pure_ (i := 8) (N := some 16) (v := ?_) (a' := ?_) #[true, true, true, true, true, true, true, true, true, false] rfl rfl (by kernel_rfl) (fun _ _ _ h => h) (Or.inl ⟨by rfl, ?_⟩) ?_ ?_
      rotate_left
      · intro w'
        go_simp
        with_reducible rfl
      rotate_left
      · simp only [Act.put, List.setIfInBounds_toArray, List.set_cons_zero, List.set_cons_succ, i64_w, i32_w]
        rfl
      refine pure_ (i := 9) (N := some 17) (v := ?_) (a' := ?_) #[true, true, true, true, true, true, true, true, true, true] rfl rfl (by kernel_rfl) (fun _ _ _ h => h) (Or.inl ⟨by rfl, ?_⟩) ?_ ?_
      rotate_left
      · intro w'
        go_simp
        with_reducible rfl
      rotate_left
      · simp only [Act.put, List.setIfInBounds_toArray, List.set_cons_zero, List.set_cons_succ, i64_w, i32_w]
        rfl
      refine done_ (by kernel_rfl) ?_
      go_upto_region 7 with fail
      refine start_ (n := 12) (S := fun w' => w'.cell? ⟨g, 1, none⟩ = some (.int .i64 (x + 1)) ∧ w'.cell? ⟨g, 0, none⟩ = some (.slice (some ad) n c) ∧ w'.cell? (ad.add x.toNat) = some (.int .u32 v)) (ds := []) #[false, false, false, false, false, false, false, false, false, false, false, false] (by kernel_rfl) rfl rfl ⟨(blk_cell (blk_below HK2.out (below_drew1 (below_drew1 (Below.refl _ _)))) 1).trans rfl, (blk_cell (blk_below HK2.out (below_drew1 (below_drew1 (Below.refl _ _)))) 0).trans rfl, HWD.out.trans rfl⟩ (fun hHeld => ?_)
      refine pure_ (i := 0) (N := some 28) (v := ?_) (a' := ?_) #[true, false, false, false, false, false, false, false, false, false, false, false] rfl rfl (by kernel_rfl) (fun _ _ _ h => h) (Or.inl ⟨by rfl, ?_⟩) ?_ ?_
      rotate_left
      · intro w'
        go_simp
        with_reducible rfl
      rotate_left
      · simp only [Act.put, List.setIfInBounds_toArray, List.set_cons_zero, List.set_cons_succ, i64_w, i32_w]
        rfl
      refine pure_ (i := 1) (N := some 29) (v := ?_) (a' := ?_) #[true, true, false, false, false, false, false, false, false, false, false, false] rfl rfl (by kernel_rfl) (fun _ _ _ h => h) (Or.inl ⟨by rfl, ?_⟩) ?_ ?_
      rotate_left
      · intro w'
        go_simp
        with_reducible rfl
      rotate_left
      · simp only [Act.put, List.setIfInBounds_toArray, List.set_cons_zero, List.set_cons_succ, i64_w, i32_w]
        rfl
      refine pure_ (i := 2) (N := some 30) (v := ?_) (a' := ?_) #[true, true, true, false, false, false, false, false, false, false, false, false] rfl rfl (by kernel_rfl) (fun _ _ _ h => h) (Or.inl ⟨by rfl, ?_⟩) ?_ ?_
      rotate_left
      · intro w'
        go_simp
        with_reducible rfl
      rotate_left
      · simp only [Act.put, List.setIfInBounds_toArray, List.set_cons_zero, List.set_cons_succ, i64_w, i32_w]
        rfl
      refine pure_ (i := 4) (N := some 32) (v := ?_) (a' := ?_) #[true, true, true, false, true, false, false, false, false, false, false, false] rfl rfl (by kernel_rfl) (fun _ _ _ h => h) (Or.inl ⟨by rfl, ?_⟩) ?_ ?_
      rotate_left
      · intro w'
        go_simp
        with_reducible rfl
      rotate_left
      · simp only [Act.put, List.setIfInBounds_toArray, List.set_cons_zero, List.set_cons_succ, i64_w, i32_w]
        rfl
      refine pure_ (i := 5) (N := some 33) (v := ?_) (a' := ?_) #[true, true, true, false, true, true, false, false, false, false, false, false] rfl rfl (by kernel_rfl) (fun _ _ _ h => h) (Or.inl ⟨by rfl, ?_⟩) ?_ ?_
      rotate_left
      · intro w'
        go_simp
        with_reducible rfl
      rotate_left
      · simp only [Act.put, List.setIfInBounds_toArray, List.set_cons_zero, List.set_cons_succ, i64_w, i32_w]
        rfl
      refine pure_ (i := 6) (N := some 34) (v := ?_) (a' := ?_) #[true, true, true, false, true, true, true, false, false, false, false, false] rfl rfl (by kernel_rfl) (fun _ _ _ h => h) (Or.inl ⟨by rfl, ?_⟩) ?_ ?_
      rotate_left
      · intro w'
        go_simp
        with_reducible rfl
      rotate_left
      · simp only [Act.put, List.setIfInBounds_toArray, List.set_cons_zero, List.set_cons_succ, i64_w, i32_w]
        rfl
      refine take_ (i := 3) (N := some 31) (v := ?_) (a' := ?_) #[true, true, true, true, true, true, true, false, false, false, false, false] rfl rfl (by kernel_rfl) (fun _ _ _ h => h) (Or.inl ⟨by rfl, ?_⟩) hHeld ?_ ?_
      rotate_left
      · rintro w' ⟨s0, s1, s2⟩
        go_simp
        with_reducible rfl
      rotate_left
      · simp only [Act.put, List.setIfInBounds_toArray, List.set_cons_zero, List.set_cons_succ, i64_w, i32_w]
        rfl
      refine take_ (i := 7) (N := some 35) (v := ?_) (a' := ?_) #[true, true, true, true, true, true, true, true, false, false, false, false] rfl rfl (by kernel_rfl) (fun _ _ _ h => h) (Or.inl ⟨by rfl, ?_⟩) hHeld ?_ ?_
      rotate_left
      · rintro w' ⟨s0, s1, s2⟩
        go_simp
        with_reducible rfl
      rotate_left
      · simp only [Act.put, List.setIfInBounds_toArray, List.set_cons_zero, List.set_cons_succ, i64_w, i32_w]
        rfl
      refine pure_ (i := 8) (N := some 36) (v := ?_) (a' := ?_) #[true, true, true, true, true, true, true, true, true, false, false, false] rfl rfl (by kernel_rfl) (fun _ _ _ h => h) (Or.inl ⟨by rfl, ?_⟩) ?_ ?_
      rotate_left
      · intro w'
        go_simp
        with_reducible rfl
      rotate_left
      · simp only [Act.put, List.setIfInBounds_toArray, List.set_cons_zero, List.set_cons_succ, i64_w, i32_w]
        rfl
      refine pure_ (i := 9) (N := some 37) (v := ?_) (a' := ?_) #[true, true, true, true, true, true, true, true, true, true, false, false] rfl rfl (by kernel_rfl) (fun _ _ _ h => h) (Or.inl ⟨by rfl, ?_⟩) ?_ ?_
      rotate_left
      · intro w'
        go_simp
        with_reducible rfl
      rotate_left
      · simp only [Act.put, List.setIfInBounds_toArray, List.set_cons_zero, List.set_cons_succ, i64_w, i32_w]
        rfl
      refine take_ (i := 10) (N := some 38) (v := ?_) (a' := ?_) #[true, true, true, true, true, true, true, true, true, true, true, false] rfl rfl (by kernel_rfl) (fun _ _ _ h => h) (Or.inl ⟨by rfl, ?_⟩) hHeld ?_ ?_
      rotate_left
      · rintro w' ⟨s0, s1, s2⟩
        go_simp
        with_reducible rfl
      rotate_left
      · simp only [Act.put, List.setIfInBounds_toArray, List.set_cons_zero, List.set_cons_succ, i64_w, i32_w]
        rfl
      refine pure_ (i := 11) (N := some 2) (v := ?_) (a' := ?_) #[true, true, true, true, true, true, true, true, true, true, true, true] rfl rfl (by kernel_rfl) (fun _ _ _ h => h) (Or.inl ⟨by rfl, ?_⟩) ?_ ?_
      rotate_left
      · intro w'
        go_simp
        with_reducible rfl
      rotate_left
      · simp only [Act.put, List.setIfInBounds_toArray, List.set_cons_zero, List.set_cons_succ, i64_w, i32_w]
        rfl
      refine done_ (by kernel_rfl) ?_
      go_wp2
      go_ret
      exact ⟨rfl, HS.out.to (below_drew1 (below_drew1 (Below.refl _ _))), (HB.out.setCell HG.out _).drew.drew, ((KeepBut.refl W g none).set_ _ _).trans (KeepBut.of_below (below_drew1 (below_drew1 (Below.refl _ _))) g none) (.inl rfl)⟩
    · rw [if_neg hlt, if_neg hlt, if_neg hlt]
      have hd : decide (ws.length ≤ a) = true := decide_eq_true (by omega)
      have hdn : ws.length ≤ a := by omega
      have hf2 := blk_frozen hg 2
      have HS := Aside0.mk (HI.out.setE 8)
      obtain ⟨n, hn⟩ : ∃ n, ws.length = n := ⟨_, rfl⟩
      rw [hn] at hc0 hd hdn HK
      clear hg hc hr hge hlt ha hl hB
      go_enter Try.func57, Try.ntmps57
      go_upto_region 3 with fail
      refine start_ (n := 10) (S := fun w' => w'.cell? ⟨g, 1, none⟩ = some (.int .i64 (a : Int)) ∧ w'.cell? ⟨g, 0, none⟩ = some (.slice A n c)) (ds := []) #[false, false, false, false, false, false, false, false, false, false] (by kernel_rfl) rfl rfl ⟨(blk_cell (blk_below HK.out (below_drew1 (Below.refl _ _))) 1).trans rfl, (blk_cell (blk_below HK.out (below_drew1 (Below.refl _ _))) 0).trans rfl⟩ (fun hHeld => ?_)
      refine pure_ (i := 0) (N := some 8) (v := ?_) (a' := ?_) #[true, false, false, false, false, false, false, false, false, false] rfl rfl (by kernel_rfl) (fun _ _ _ h => h) (Or.inl ⟨by rfl, ?_⟩) ?_ ?_
      rotate_left
      · intro w'
        go_simp
        with_reducible rfl
      rotate_left
      · simp only [Act.put, List.setIfInBounds_toArray, List.set_cons_zero, List.set_cons_succ, i64_w, i32_w]
        rfl
      refine pure_ (i := 1) (N := some 9) (v := ?_) (a' := ?_) #[true, true, false, false, false, false, false, false, false, false] rfl rfl (by kernel_rfl) (fun _ _ _ h => h) (Or.inl ⟨by rfl, ?_⟩) ?_ ?_
      rotate_left
      · intro w'
        go_simp
        with_reducible rfl
      rotate_left
      · simp only [Act.put, List.setIfInBounds_toArray, List.set_cons_zero, List.set_cons_succ, i64_w, i32_w]
        rfl
      refine pure_ (i := 2) (N := some 10) (v := ?_) (a' := ?_) #[true, true, true, false, false, false, false, false, false, false] rfl rfl (by kernel_rfl) (fun _ _ _ h => h) (Or.inl ⟨by rfl, ?_⟩) ?_ ?_
      rotate_left
      · intro w'
        go_simp
        with_reducible rfl
      rotate_left
      · simp only [Act.put, List.setIfInBounds_toArray, List.set_cons_zero, List.set_cons_succ, i64_w, i32_w]
        rfl
      refine pure_ (i := 4) (N := some 12) (v := ?_) (a' := ?_) #[true, true, true, false, true, false, false, false, false, false] rfl rfl (by kernel_rfl) (fun _ _ _ h => h) (Or.inl ⟨by rfl, ?_⟩) ?_ ?_
      rotate_left
      · intro w'
        go_simp
        with_reducible rfl
      rotate_left
      · simp only [Act.put, List.setIfInBounds_toArray, List.set_cons_zero, List.set_cons_succ, i64_w, i32_w]
        rfl
      refine pure_ (i := 5) (N := some 13) (v := ?_) (a' := ?_) #[true, true, true, false, true, true, false, false, false, false] rfl rfl (by kernel_rfl) (fun _ _ _ h => h) (Or.inl ⟨by rfl, ?_⟩) ?_ ?_
      rotate_left
      · intro w'
        go_simp
        with_reducible rfl
      rotate_left
      · simp only [Act.put, List.setIfInBounds_toArray, List.set_cons_zero, List.set_cons_succ, i64_w, i32_w]
        rfl
      refine pure_ (i := 6) (N := some 14) (v := ?_) (a' := ?_) #[true, true, true, false, true, true, true, false, false, false] rfl rfl (by kernel_rfl) (fun _ _ _ h => h) (Or.inl ⟨by rfl, ?_⟩) ?_ ?_
      rotate_left
      · intro w'
        go_simp
        with_reducible rfl
      rotate_left
      · simp only [Act.put, List.setIfInBounds_toArray, List.set_cons_zero, List.set_cons_succ, i64_w, i32_w]
        rfl
      refine take_ (i := 3) (N := some 11) (v := ?_) (a' := ?_) #[true, true, true, true, true, true, true, false, false, false] rfl rfl (by kernel_rfl) (fun _ _ _ h => h) (Or.inl ⟨by rfl, ?_⟩) hHeld ?_ ?_
      rotate_left
      · rintro w' ⟨s0, s1⟩
        go_simp
        with_reducible rfl
      rotate_left
      · simp only [Act.put, List.setIfInBounds_toArray, List.set_cons_zero, List.set_cons_succ, i64_w, i32_w]
        rfl
      refine take_ (i := 7) (N := some 15) (v := ?_) (a' := ?_) #[true, true, true, true, true, true, true, true, false, false] rfl rfl (by kernel_rfl) (fun _ _ _ h => h) (Or.inl ⟨by rfl, ?_⟩) hHeld ?_ ?_
      rotate_left
      · rintro w' ⟨s0, s1⟩
        go_simp
        with_reducible rfl
      rotate_left
      · simp only [Act.put, List.setIfInBounds_toArray, List.set_cons_zero, List.set_cons_succ, i64_w, i32_w]
        rfl
      refine pure_ (i := 8) (N := some 16) (v := ?_) (a' := ?_) #[true, true, true, true, true, true, true, true, true, false] rfl rfl (by kernel_rfl) (fun _ _ _ h => h) (Or.inl ⟨by rfl, ?_⟩) ?_ ?_
      rotate_left
      · intro w'
        go_simp
        with_reducible rfl
      rotate_left
      · simp only [Act.put, List.setIfInBounds_toArray, List.set_cons_zero, List.set_cons_succ, i64_w, i32_w]
        rfl
      refine pure_ (i := 9) (N := some 17) (v := ?_) (a' := ?_) #[true, true, true, true, true, true, true, true, true, true] rfl rfl (by kernel_rfl) (fun _ _ _ h => h) (Or.inl ⟨by rfl, ?_⟩) ?_ ?_
      rotate_left
      · intro w'
        go_simp
        with_reducible rfl
      rotate_left
      · simp only [Act.put, List.setIfInBounds_toArray, List.set_cons_zero, List.set_cons_succ, i64_w, i32_w]
        rfl
      refine done_ (by kernel_rfl) ?_
      go_wp2
      go_ret
      exact ⟨rfl, HS.out.to (below_drew1 (Below.refl _ _)), (HB.out.setCell HG.out _).drew, ((KeepBut.refl W g none).set_ _ _).trans (KeepBut.of_below (below_drew1 (Below.refl _ _)) g none) (.inl rfl)⟩
  · have e1 : (e != 0) = true := by simp [he]
    rw [if_neg he, if_neg he, if_neg he]
    clear he hg hc hr hge hc0 hc1 HK
    go_enter Try.func57, Try.ntmps57
    go_wp2
    go_ret
    exact ⟨rfl, HI.out, HB.out, KeepBut.refl W g none⟩
theorem IsRb.c2 {w0 W : World} {g : Nat} {ws : List Int} {at_ : Nat} {e : Int} (h : IsRb w0 W g ws at_ e) : W.cell? ⟨g, 2, none⟩ = some (.int .i64 e) ∧ W.frozen? ⟨g, 2, none⟩ = false := by
  obtain ⟨A, c, hg, _⟩ := h
  exact ⟨(blk_cell hg 2).trans rfl, blk_frozen hg 2⟩
theorem rnV_le {ws : List Int} (hw : Words ws) (a : Nat) (e : Int) : 0 ≤ rnV ws a e ∧ rnV ws a e ≤ 4294967295 := by
  unfold rnV
  split
  · split
    · rename_i h
      rw [List.getD_eq_getElem?_getD, List.getElem?_eq_getElem h]
      exact hw _ (List.getElem_mem h)
    · decide
  · decide
set_option maxHeartbeats 2000000 in
theorem rcount_calls (w0 W : World) (g : Nat) (ws : List Int) (a : Nat) (e m : Int) (hw : Words ws) (hl : ws.length ≤ 1000000) (ha : a ≤ ws.length) (h : IsRb w0 W g ws a e) (hB : Below w0.heap.size w0 W) :
    Calls Try.prog 58 #[.pointer (some ⟨g, 0, none⟩), .int .u32 m] W fun e' w' => e' = .returned (.int .i64 (rcV ws a e m)) ∧ Rb w0 W g ws (rnA ws a e) (rcE ws a e m) w' := by
  have HN := Aside0.mk (rnext_calls w0 W g ws a e hl ha h hB)
  have HG := Aside0.mk h.ge
  have hv := rnV_le hw a e
  have HC : Aside0 (rcE ws a e m = (if rnE ws a e = 0 then (if m < rnV ws a e then 7 else 0) else rnE ws a e) ∧ rcV ws a e m = (if rcE ws a e m = 0 then rnV ws a e else 0)) := ⟨rfl, rfl⟩
  generalize rcE ws a e m = ce at *
  generalize rcV ws a e m = cv at *
  generalize rnV ws a e = v at *
  generalize rnA ws a e = a1 at *
  generalize rnE ws a e = e1 at *
  have hcv : IntKind.i64.wrap v = v := by rw [i64_w]; unfold wrap64; omega
  have HCV := Aside0.mk hcv
  clear h hB hw hl ha hv hcv
  by_cases he : e1 = 0
  · subst he
    by_cases hm : m < v
    · have hd : decide (m < v) = true := decide_eq_true hm
      obtain ⟨h1, h2⟩ := HC.out
      rw [if_pos rfl, if_pos hm] at h1
      subst h1
      rw [if_neg (by decide)] at h2
      subst h2
      clear hm HC HCV
      go_enter Try.func58, Try.ntmps58
      go_wp2_with fail
      refine HN.out.mono ?_
      rintro e' w1 ⟨rfl, hr⟩
      have HR := Aside0.mk hr
      have HS := Aside0.mk (hr.rb.setE 7)
      obtain ⟨hc2, hf2⟩ := hr.rb.c2
      have HS2 := Aside0.mk HS.out.c2.1
      have hx2 := HS2.out
      clear hr HN
      go_wp2
      go_ret
      exact ⟨rfl, HS.out, HR.out.bel.setCell HG.out _, HR.out.keep.set_ _ _⟩
    · have hd : decide (m < v) = false := decide_eq_false hm
      obtain ⟨h1, h2⟩ := HC.out
      rw [if_pos rfl, if_neg hm] at h1
      subst h1
      rw [if_pos rfl] at h2
      subst h2
      have hcv := HCV.out
      clear hm HC HCV
      go_enter Try.func58, Try.ntmps58
      go_wp2_with fail
      refine HN.out.mono ?_
      rintro e' w1 ⟨rfl, hr⟩
      have HR := Aside0.mk hr
      obtain ⟨hc2, hf2⟩ := hr.rb.c2
      clear hr HN hf2
      go_wp2
      go_ret
      exact ⟨rfl, HR.out⟩
  · have e0 : (e1 == 0) = false := by simp [he]
    have e2 : (e1 != 0) = true := by simp [he]
    obtain ⟨h1, h2⟩ := HC.out
    rw [if_neg he] at h1
    subst h1
    rw [if_neg he] at h2
    subst h2
    clear he HC HCV
    go_enter Try.func58, Try.ntmps58
    go_wp2_with fail
    refine HN.out.mono ?_
    rintro e' w1 ⟨rfl, hr⟩
    have HR := Aside0.mk hr
    obtain ⟨hc2, hf2⟩ := hr.rb.c2
    clear hr HN hf2
    go_wp2
    go_ret
    exact ⟨rfl, HR.out⟩
/-! ### the reference's request -/
theorem Rb.more {w0 W W1 w' : World} {g : Nat} {ws : List Int} {a a' : Nat} {e e' : Int} (h : Rb w0 W g ws a e W1) (h' : Rb w0 W1 g ws a' e' w') : Rb w0 W g ws a' e' w' := ⟨h'.rb, h'.bel, h.keep.trans h'.keep (.inl rfl)⟩
theorem Rb.to {w0 W W1 w' : World} {g : Nat} {ws : List Int} {a : Nat} {e : Int} (h : Rb w0 W g ws a e W1) (hb : Below W1.heap.size W1 w') : Rb w0 W g ws a e w' := ⟨h.rb.to hb, h.bel.trans (hb.mono h.bel.size), ⟨Nat.le_trans h.keep.1 hb.size, fun k hk q1 q2 => (hb.block k (Nat.lt_of_lt_of_le hk h.keep.1)).trans (h.keep.2 k hk q1 q2)⟩⟩
theorem Rb.far {w0 W W1 : World} {g b : Nat} {ws : List Int} {a : Nat} {e : Int} (h : Rb w0 W g ws a e W1) (hl : g < b) (hW : W.heap.size ≤ b) (i : Nat) (v : Value) : Rb w0 W g ws a e (W1.setCell ⟨b, i, none⟩ v) := by
  refine ⟨?_, h.bel.setCell (Nat.le_trans h.rb.ge (Nat.le_of_lt hl)) _, ⟨by simpa using h.keep.1, fun k hk q1 q2 => (Below.heap_setCell W1 ⟨b, i, none⟩ v k (Nat.ne_of_lt (Nat.lt_of_lt_of_le hk hW))).trans (h.keep.2 k hk q1 q2)⟩⟩
  obtain ⟨A, c, hg, r⟩ := h.rb
  exact ⟨A, c, (Below.heap_setCell W1 ⟨b, i, none⟩ v g (Nat.ne_of_lt hl)).trans hg, r⟩
theorem rnA_le (ws : List Int) (a : Nat) (e : Int) (h : a ≤ ws.length) : rnA ws a e ≤ ws.length := by
  unfold rnA
  split
  · split <;> omega
  · exact h
theorem plN_le {ws : List Int} {p : Pl} (h : p.a ≤ ws.length) : (plN ws p).a ≤ ws.length := rnA_le ws p.a p.e h
theorem pl_next (w0 : World) (g : Nat) (ws : List Int) (hl : ws.length ≤ 1000000) (p : Pl) (hp : p.a ≤ ws.length) (W X : World) (h : Rb w0 W g ws p.a p.e X) : Calls Try.prog 57 #[.pointer (some ⟨g, 0, none⟩)] X fun e w' => e = .returned (.int .u32 (plV ws p)) ∧ Rb w0 W g ws (plN ws p).a (plN ws p).e w' ∧ KeepBut X w' g none :=
  (rnext_calls w0 X g ws p.a p.e hl hp h.rb h.bel).mono (fun _ _ r => ⟨r.1, h.more r.2, r.2.keep⟩)
theorem pl_count (w0 : World) (g : Nat) (ws : List Int) (hw : Words ws) (hl : ws.length ≤ 1000000) (m : Int) (p : Pl) (hp : p.a ≤ ws.length) (W X : World) (h : Rb w0 W g ws p.a p.e X) : Calls Try.prog 58 #[.pointer (some ⟨g, 0, none⟩), .int .u32 m] X fun e w' => e = .returned (.int .i64 (rcV ws p.a p.e m)) ∧ Rb w0 W g ws (plC ws p m).a (plC ws p m).e w' ∧ KeepBut X w' g none :=
  (rcount_calls w0 X g ws p.a p.e m hw hl hp h.rb h.bel).mono (fun _ _ r => ⟨r.1, h.more r.2, r.2.keep⟩)
theorem rcV_le {ws : List Int} (hw : Words ws) (a : Nat) (e m : Int) (hm : 0 ≤ m) : 0 ≤ rcV ws a e m ∧ rcV ws a e m ≤ m := by
  unfold rcV
  by_cases h : rcE ws a e m = 0
  · rw [if_pos h]
    have hv := rnV_le hw a e
    unfold rcE at h
    split at h
    · split at h
      · cases h
      · omega
    · rename_i h2
      exact absurd h h2
  · rw [if_neg h]
    omega
theorem i64_of {v : Int} (h : 0 ≤ v ∧ v ≤ 4294967295) : IntKind.i64.wrap v = v := by rw [i64_w]; unfold wrap64; omega
theorem addr_of {h l : Int} (hh : 0 ≤ h ∧ h ≤ 4294967295) (hl : 0 ≤ l ∧ l ≤ 4294967295) : IntKind.u64.wrap (IntKind.u64.wrap (IntKind.u64.wrap h * 4294967296) + IntKind.u64.wrap l) = h * 4294967296 + l := by
  show ((h % 18446744073709551616 * 4294967296) % 18446744073709551616 + l % 18446744073709551616) % 18446744073709551616 = h * 4294967296 + l
  omega
theorem i64_n {x n : Int} (h0 : 0 ≤ x) (h : x < n) (hn : n ≤ 4096) : wrap64 (x + 1) = x + 1 := by unfold wrap64; omega
theorem meas64 {z L : Int} (h0 : 0 ≤ z) (h : z < L) : (L - intOf (.int .i64 (z + 1))).toNat < (L - intOf (.int .i64 z)).toNat := by simp only [intOf]; omega
theorem Rb.far4 {w0 W W1 : World} {g b : Nat} {ws : List Int} {a : Nat} {e : Int} (h : Rb w0 W g ws a e W1) (hl : g < b) (hW : W.heap.size ≤ b) (v0 v1 v2 v3 : Value) : Rb w0 W g ws a e ((((W1.setCell ⟨b, 0, none⟩ v0).setCell ⟨b, 1, none⟩ v1).setCell ⟨b, 2, none⟩ v2).setCell ⟨b, 3, none⟩ v3) :=
  (((h.far hl hW 0 v0).far hl hW 1 v1).far hl hW 2 v2).far hl hW 3 v3
theorem Rb.tob {w0 W W1 w' : World} {g b : Nat} {ws : List Int} {a : Nat} {e : Int} (h : Rb w0 W g ws a e W1) (hb : Below (b + 1) W1 w') (hg : g < b + 1) (hW : W.heap.size ≤ b) (hs : b + 1 ≤ W1.heap.size) : Rb w0 W g ws a e w' := by
  refine ⟨?_, ?_, ⟨Nat.le_trans h.keep.1 hb.size, fun k hk q1 q2 => (hb.block k (Nat.lt_of_lt_of_le hk (Nat.le_succ_of_le hW))).trans (h.keep.2 k hk q1 q2)⟩⟩
  · obtain ⟨A, c, hx, r⟩ := h.rb
    exact ⟨A, c, (hb.block g hg).trans hx, r⟩
  · exact h.bel.trans (hb.mono (Nat.le_trans h.rb.ge (Nat.le_of_lt hg)))
set_option maxRecDepth 20000 in
set_option maxHeartbeats 4000000 in
theorem rrequest_calls (w0 W : World) (g : Nat) (ws : List Int) (p : Pl) (hw : Words ws) (hl : ws.length ≤ 1000000) (hp : p.a ≤ ws.length) (h : IsRb w0 W g ws p.a p.e) (hB : Below w0.heap.size w0 W) :
    Calls Try.prog 59 #[.pointer (some ⟨g, 0, none⟩)] W fun e w' => ∃ A n c, e = .returned (.agg #[.int .i64 (rrP ws p).1.op, .int .i64 (rrP ws p).1.port, .int .u64 (rrP ws p).1.addr, .slice A n c]) ∧ Kd.R (Kd.int .u32) 43 w' W.heap.size (fun j => W.heap.size ≤ j) (.slice A n c) (rrP ws p).1.data ∧ Rb w0 W g ws (rrP ws p).2.a (rrP ws p).2.e w' := by
  have p1 := plN_le hp
  have p2 := plN_le p1
  have p3 := plN_le p2
  have p4 := plN_le p3
  have S0 := Aside0.mk (pl_next w0 g ws hl p hp)
  have S1 := Aside0.mk (pl_next w0 g ws hl _ p1)
  have S2 := Aside0.mk (pl_next w0 g ws hl _ p2)
  have S3 := Aside0.mk (pl_next w0 g ws hl _ p3)
  have S4 := Aside0.mk (pl_count w0 g ws hw hl 64 _ p4)
  have hv0 : 0 ≤ plV ws p ∧ plV ws p ≤ 4294967295 := rnV_le hw p.a p.e
  have hv1 : 0 ≤ plV ws (plN ws p) ∧ plV ws (plN ws p) ≤ 4294967295 := rnV_le hw (plN ws p).a (plN ws p).e
  have hv2 : 0 ≤ plV ws (plN ws (plN ws p)) ∧ plV ws (plN ws (plN ws p)) ≤ 4294967295 := rnV_le hw (plN ws (plN ws p)).a (plN ws (plN ws p)).e
  have hv3 : 0 ≤ plV ws (plN ws (plN ws (plN ws p))) ∧ plV ws (plN ws (plN ws (plN ws p))) ≤ 4294967295 := rnV_le hw (plN ws (plN ws (plN ws p))).a (plN ws (plN ws (plN ws p))).e
  have hs1 : (W.alloc (.cells #[.int .i64 0, .int .i64 0, .int .u64 0, .slice none 0 0] 90)).heap.size = W.heap.size + 1 := by simp
  have hgl : g < W.heap.size := by obtain ⟨A, c, hg, _⟩ := h; exact blk_lt hg
  have hb1 := below_alloc (Below.refl _ W) (.cells #[.int .i64 0, .int .i64 0, .int .u64 0, .slice none 0 0] 90)
  have hb2 := below_alloc (Below.refl _ (W.alloc (.cells #[.int .i64 0, .int .i64 0, .int .u64 0, .slice none 0 0] 90))) (.cells #[.int .i64 0, .int .i64 0, .int .u64 0, .slice none 0 0] 90)
  have hbb := hb1.trans (hb2.mono hb1.size)
  have HR0 : Aside0 (Rb w0 W g ws p.a p.e ((W.alloc (.cells #[.int .i64 0, .int .i64 0, .int .u64 0, .slice none 0 0] 90)).alloc (.cells #[.int .i64 0, .int .i64 0, .int .u64 0, .slice none 0 0] 90))) := ⟨⟨h.to hbb, hB.trans (hbb.mono hB.size), KeepBut.of_below hbb g none⟩⟩
  have HG0 := Aside0.mk (blk_below (blk_new W (.cells #[.int .i64 0, .int .i64 0, .int .u64 0, .slice none 0 0] 90)) hb2)
  have hg2 := blk_new (W.alloc (.cells #[.int .i64 0, .int .i64 0, .int .u64 0, .slice none 0 0] 90)) (.cells #[.int .i64 0, .int .i64 0, .int .u64 0, .slice none 0 0] 90)
  rw [hs1] at hg2
  have HB0 := Aside0.mk hg2
  have HNG : Aside0 (W.heap.size ≠ g) := ⟨Nat.ne_of_gt hgl⟩
  have HNB : Aside0 (W.heap.size + 1 ≠ g) := ⟨by omega⟩
  have HRB : Aside0 (W.heap.size ≠ W.heap.size + 1) := ⟨by omega⟩
  have HGB : Aside0 (g < W.heap.size + 1) := ⟨by omega⟩
  have HWB : Aside0 (W.heap.size ≤ W.heap.size + 1) := ⟨by omega⟩
  have HGL := Aside0.mk hgl
  have HP5 : Aside0 ((plC ws (plN ws (plN ws (plN ws (plN ws p)))) 64).a ≤ ws.length) := ⟨rnA_le ws _ _ p4⟩
  have HLL := Aside0.mk hl
  clear h hB hb1 hb2 hbb hg2 hs1 hgl p1 p2 p3 p4 hp
  go_enter Try.func59, Try.ntmps59
  go_wp2_with fail
  generalize ((W.alloc (.cells #[.int .i64 0, .int .i64 0, .int .u64 0, .slice none 0 0] 90)).alloc (.cells #[.int .i64 0, .int .i64 0, .int .u64 0, .slice none 0 0] 90)) = wz at *
  generalize W.heap.size + 1 = b at *
  generalize hva : plV ws p = v0 at *
  have HVA := Aside0.mk hva
  clear hva
  have hcv0 : IntKind.i64.wrap v0 = v0 := i64_of hv0
  refine (S0.out W _ HR0.out).mono ?_
  rintro e w1 ⟨rfl, h1, hk⟩
  have HR1' := Aside0.mk h1
  have HG1' := Aside0.mk (hk.blk HG0.out HNG.out (by simp))
  have HB1' := Aside0.mk (hk.blk HB0.out HNB.out (by simp))
  clear h1 hk S0 HR0 HG0 HB0
  have hc1 := (blk_cell HB1'.out 0).trans rfl
  have hf1 := blk_frozen HB1'.out 0
  have HB1 := Aside0.mk ((blk_set HB1'.out 0 (.int .i64 v0)).trans rfl)
  have HG1 := Aside0.mk ((Below.heap_setCell w1 ⟨b, 0, none⟩ (.int .i64 v0) _ HRB.out).trans HG1'.out)
  have HR1 := Aside0.mk (HR1'.out.far HGB.out HWB.out 0 (.int .i64 v0))
  clear HB1' HG1' HR1'
  have hcv1 : IntKind.i64.wrap (plV ws (plN ws p)) = plV ws (plN ws p) := i64_of hv1
  go_wp2_with fail
  refine (S1.out W _ HR1.out).mono ?_
  rintro e w2 ⟨rfl, h1, hk⟩
  have HR2' := Aside0.mk h1
  have HG2' := Aside0.mk (hk.blk HG1.out HNG.out (by simp))
  have HB2' := Aside0.mk (hk.blk HB1.out HNB.out (by simp))
  clear h1 hk S1 HR1 HG1 HB1
  have hc2 := (blk_cell HB2'.out 1).trans rfl
  have hf2 := blk_frozen HB2'.out 1
  have HB2 := Aside0.mk ((blk_set HB2'.out 1 (.int .i64 (plV ws (plN ws p)))).trans rfl)
  have HG2 := Aside0.mk ((Below.heap_setCell w2 ⟨b, 1, none⟩ (.int .i64 (plV ws (plN ws p))) _ HRB.out).trans HG2'.out)
  have HR2 := Aside0.mk (HR2'.out.far HGB.out HWB.out 1 (.int .i64 (plV ws (plN ws p))))
  clear HB2' HG2' HR2'
  go_wp2_with fail
  refine (S2.out W _ HR2.out).mono ?_
  rintro e w3 ⟨rfl, h1, hk⟩
  have HR3' := Aside0.mk h1
  have HG3' := Aside0.mk (hk.blk HG2.out HNG.out (by simp))
  have HB3' := Aside0.mk (hk.blk HB2.out HNB.out (by simp))
  clear h1 hk S2 HR2 HG2 HB2
  have HB3 := HB3'
  have HG3 := HG3'
  have HR3 := HR3'
  clear HB3' HG3' HR3'
  go_wp2_with fail
  refine (S3.out W _ HR3.out).mono ?_
  rintro e w4 ⟨rfl, h1, hk⟩
  have HR4' := Aside0.mk h1
  have HG4' := Aside0.mk (hk.blk HG3.out HNG.out (by simp))
  have HB4' := Aside0.mk (hk.blk HB3.out HNB.out (by simp))
  clear h1 hk S3 HR3 HG3 HB3
  have had := addr_of hv3 hv2
  have hc4 := (blk_cell HB4'.out 2).trans rfl
  have hf4 := blk_frozen HB4'.out 2
  have HB4 := Aside0.mk ((blk_set HB4'.out 2 (.int .u64 (plV ws (plN ws (plN ws (plN ws p))) * 4294967296 + plV ws (plN ws (plN ws p))))).trans rfl)
  have HG4 := Aside0.mk ((Below.heap_setCell w4 ⟨b, 2, none⟩ (.int .u64 (plV ws (plN ws (plN ws (plN ws p))) * 4294967296 + plV ws (plN ws (plN ws p)))) _ HRB.out).trans HG4'.out)
  have HR4 := Aside0.mk (HR4'.out.far HGB.out HWB.out 2 (.int .u64 (plV ws (plN ws (plN ws (plN ws p))) * 4294967296 + plV ws (plN ws (plN ws p)))))
  clear HB4' HG4' HR4'
  generalize hadv : plV ws (plN ws (plN ws (plN ws p))) * 4294967296 + plV ws (plN ws (plN ws p)) = ad at *
  go_wp2_with fail
  refine (S4.out W _ HR4.out).mono ?_
  rintro e w5 ⟨rfl, h1, hk⟩
  have HR5' := Aside0.mk h1
  have HG5' := Aside0.mk (hk.blk HG4.out HNG.out (by simp))
  have HB5' := Aside0.mk (hk.blk HB4.out HNB.out (by simp))
  clear h1 hk S4 HR4 HG4 HB4
  have HADV := Aside0.mk hadv
  clear hadv
  have hnb := rcV_le hw (plN ws (plN ws (plN ws (plN ws p)))).a (plN ws (plN ws (plN ws (plN ws p)))).e 64 (by decide)
  obtain ⟨n, hn⟩ : ∃ n, rcV ws (plN ws (plN ws (plN ws (plN ws p)))).a (plN ws (plN ws (plN ws (plN ws p)))).e 64 = n := ⟨_, rfl⟩
  rw [hn] at hnb ⊢
  have HNN := Aside0.mk hnb
  have HNV := Aside0.mk hn
  clear hn hnb
  obtain ⟨q5, hq5⟩ : ∃ q, plC ws (plN ws (plN ws (plN ws (plN ws p)))) 64 = q := ⟨_, rfl⟩
  rw [hq5] at HR5'
  obtain ⟨tot, htot⟩ : ∃ r, plL ws n.toNat q5 = r := ⟨_, rfl⟩
  have HT : Aside0 (([] ++ (plL ws n.toNat q5).1, (plL ws n.toNat q5).2) = tot) := ⟨by rw [← htot]; rfl⟩
  have HQP : Aside0 (q5.a ≤ ws.length) := ⟨hq5 ▸ HP5.out⟩
  have HQ : Aside0 (rrP ws p = (⟨v0, plV ws (plN ws p), ad, tot.1⟩, tot.2)) := ⟨by unfold rrP; rw [HVA.out, HADV.out, HNV.out, hq5, htot]⟩
  clear hq5 htot HP5 HNV HADV HVA
  generalize plV ws (plN ws p) = v1 at *
  clear hcv0 hcv1 hv0 hv1 hv2 hv3 had
  have hu := Try.underlying22
  go_wp2_with fail
  go_loopw [7] (fun v wr => ∃ (x : Int) (k : Nat) (Ad : Option Addr) (nd cd : Nat) (L : List Int) (q : Pl), 0 ≤ x ∧ x ≤ n ∧ v = .int .i64 x ∧ Aside0 ((k : Int) = n - x) ∧ Aside0 (q.a ≤ ws.length) ∧ Aside0 (Rb w0 W g ws q.a q.e wr) ∧ Aside0 (wr.heap[W.heap.size]? = some (.cells #[.int .i64 0, .int .i64 0, .int .u64 0, .slice none 0 0] 90 (0, 0))) ∧ Aside0 (wr.heap[b]? = some (.cells #[.int .i64 v0, .int .i64 v1, .int .u64 ad, .slice Ad nd cd] 90 (0, 0))) ∧ Aside0 (Kd.R (Kd.int .u32) 43 wr (b + 1) (fun j => b + 1 ≤ j) (.slice Ad nd cd) L) ∧ Aside0 ((L ++ (plL ws k q).1, (plL ws k q).2) = tot) ∧ Aside0 ((L.length : Int) ≤ x)) (fun v _ => (n - intOf v).toNat)
  case atStart => exact ⟨0, n.toNat, none, 0, 0, [], q5, Int.le_refl _, HNN.out.1, rfl, ⟨by have := HNN.out; omega⟩, HQP, HR5', HG5', HB5', ⟨Kd.R_nil _ _ _ _ _⟩, HT, ⟨by simp⟩⟩
  case round =>
    clear HR5' HG5' HB5' HT HQP
    obtain ⟨x, k, Ad, nd, cd, L, q, hx0, hx1, rfl, HX, HA, HR, HG, HB, HO, HT, HL⟩ := hrel
    by_cases hlt : x < n
    · have hd : decide (x < n) = true := decide_eq_true hlt
      obtain ⟨k, rfl⟩ : ∃ j, k = j + 1 := ⟨k - 1, by have := HX.out; omega⟩
      have HT2 : Aside0 ((L ++ [plV ws q] ++ (plL ws k (plN ws q)).1, (plL ws k (plN ws q)).2) = tot) := ⟨by rw [← HT.out]; simp [plL]⟩
      have HX2 : Aside0 ((k : Int) = n - (x + 1)) := ⟨by have := HX.out; omega⟩
      have HA2 : Aside0 ((plN ws q).a ≤ ws.length) := ⟨plN_le HA.out⟩
      have HCON := Aside0.mk (pl_next w0 g ws HLL.out q HA.out)
      have hlen : L.length ≤ 64 := by have := HL.out; have := HNN.out; omega
      have HLEN := Aside0.mk hlen
      have hdw := below_drew1 (Below.refl wr.heap.size wr)
      have HRd := Aside0.mk (HR.out.to hdw)
      have HGd := Aside0.mk (blk_below HG.out hdw)
      have HBd := Aside0.mk (blk_below HB.out hdw)
      have HOd := Aside0.mk (Kd.R_below HO.out hdw)
      have HBL : Aside0 (b < wr.drew.heap.size) := ⟨blk_lt HBd.out⟩
      clear HT HX HR hlen hdw
      go_wp2_with fail
      refine start_ (n := 8) (S := fun w' => w'.cell? ⟨b, 3, none⟩ = some (.slice Ad nd cd)) (ds := [7]) #[false, false, false, false, false, false, false, false] (by kernel_rfl) rfl rfl ((blk_cell HBd.out 3).trans rfl) (fun hHeld => ?_)
      refine pure_ (i := 0) (N := some 35) (v := ?_) (a' := ?_) #[true, false, false, false, false, false, false, false] rfl rfl (by kernel_rfl) (fun _ _ _ h => h) (Or.inl ⟨by rfl, ?_⟩) ?_ ?_
      rotate_left
      · intro w'
        go_simp
        with_reducible rfl
      rotate_left
      · simp only [Act.put, List.setIfInBounds_toArray, List.set_cons_zero, List.set_cons_succ, i64_w, i32_w]
        rfl
      refine pure_ (i := 2) (N := some 37) (v := ?_) (a' := ?_) #[true, false, true, false, false, false, false, false] rfl rfl (by kernel_rfl) (fun _ _ _ h => h) (Or.inl ⟨by rfl, ?_⟩) ?_ ?_
      rotate_left
      · intro w'
        go_simp
        with_reducible rfl
      rotate_left
      · simp only [Act.put, List.setIfInBounds_toArray, List.set_cons_zero, List.set_cons_succ, i64_w, i32_w]
        rfl
      refine take_ (i := 1) (N := some 36) (v := ?_) (a' := ?_) #[true, true, true, false, false, false, false, false] rfl rfl (by kernel_rfl) (fun _ _ _ h => h) (Or.inl ⟨by rfl, ?_⟩) hHeld ?_ ?_
      rotate_left
      · intro w' s0
        go_simp
        with_reducible rfl
      rotate_left
      · simp only [Act.put, List.setIfInBounds_toArray, List.set_cons_zero, List.set_cons_succ, i64_w, i32_w]
        rfl
      refine one_ (i := 3) (N := some 38) #[true, true, true, true, false, false, false, false] rfl rfl (by kernel_rfl) (by decide) (fun K hK => ?_)
      refine goes_ Try.func57 (by kernel_rfl) rfl #[.pointer (some ⟨g, 0, none⟩)] (by rfl) rfl rfl (by simp only [List.map_toArray, List.map_cons, List.map_nil]; rfl) ?_
      with_reducible refine (HCON.out W _ HRd.out).mono ?_
      rintro e w3 ⟨rfl, h1, hk⟩
      refine ⟨_, rfl, ?_⟩
      have HR3 := Aside0.mk h1
      have HG3 := Aside0.mk (hk.blk HGd.out HNG.out (by simp))
      have HB3 := Aside0.mk (hk.blk HBd.out HNB.out (by simp))
      have HO3 := Aside0.mk (Kd.R_keep HOd.out hk (fun k hk => Nat.ne_of_gt (Nat.lt_of_lt_of_le (Nat.lt_succ_of_lt HGB.out) hk)))
      have HS3 : Aside0 (b + 1 ≤ w3.heap.size) := ⟨blk_lt HB3.out⟩
      clear h1 hk
      refine hK.out _ _ ((blk_cell HB3.out 3).trans rfl) (fun hHeld => ?_)
      clear hK K
      refine norm_ (a' := ?_) ?_ ?_
      rotate_left
      · show Act.put _ (some 38) _ = _
        simp only [Act.put, List.setIfInBounds_toArray, List.set_cons_zero, List.set_cons_succ, i64_w, i32_w]
        rfl
      refine one_ (i := 4) (N := some 39) #[true, true, true, true, true, false, false, false] rfl rfl (by kernel_rfl) (by decide) (fun K hK => ?_)
      refine value_ (w1 := ?_) (v := ?_) (by rfl) rfl ?_ ?_
      rotate_left 2
      · go_simp
        constructor
        · rfl
        · rfl
      refine hK.out _ _ ((blk_cell (blk_alloc HB3.out _) 3).trans rfl) (fun hHeld => ?_)
      clear hK K
      refine norm_ (a' := ?_) ?_ ?_
      rotate_left
      · show Act.put _ (some 39) _ = _
        simp only [Act.put, List.setIfInBounds_toArray, List.set_cons_zero, List.set_cons_succ, i64_w, i32_w]
        rfl
      refine one_ (i := 5) (N := some 40) #[true, true, true, true, true, true, false, false] rfl rfl (by kernel_rfl) (by decide) (fun K hK => ?_)
      refine Kd.R_append_step (Kd.int .u32) (w0 := w3) (b + 1) (by rfl) (.tmp 36) (.tmp 39) 22 43 (.int .u32 0) 4 rfl hu info_W rfl (by decide) (by decide) _ L (plV ws q) [.int .u32 (plV ws q)] (fun j => b + 1 ≤ j) (fun _ => False) rfl rfl ?aP (fun _ h => h.elim) ?aF ?aO ?aB ?aS ?aL ?_
      (case aP => exact rfl)
      (case aF => exact fun k hk => Nat.le_trans HS3.out hk)
      (case aO => exact HO3.out)
      (case aB => exact Below.refl _ _)
      (case aS => exact HS3.out)
      (case aL => have := HLEN.out; omega)
      intro v1 w6 ho hb hg hat
      obtain ⟨A6, n6, c6, rfl⟩ : ∃ A n c, v1 = .slice A n c := by obtain ⟨A, c, h⟩ := Kd.R_slice ho; exact ⟨A, _, c, h⟩
      have HO6 := Aside0.mk ho
      have HR6 := Aside0.mk (HR3.out.tob hb (Nat.lt_succ_of_lt HGB.out) HWB.out HS3.out)
      have HG6 := Aside0.mk ((hb.block _ (Nat.lt_succ_of_le HWB.out)).trans HG3.out)
      have HB6 := Aside0.mk ((hb.block _ (Nat.lt_succ_self b)).trans HB3.out)
      clear ho hb hg hat
      refine hK.out _ _ ((blk_cell HB6.out 3).trans rfl) (fun hHeld => ?_)
      clear hK K
      refine norm_ (a' := ?_) ?_ ?_
      rotate_left
      · show Act.put _ (some 40) _ = _
        simp only [Act.put, List.setIfInBounds_toArray, List.set_cons_zero, List.set_cons_succ, i64_w, i32_w]
        rfl
      refine pure_ (i := 6) (N := some 41) (v := ?_) (a' := ?_) #[true, true, true, true, true, true, true, false] rfl rfl (by kernel_rfl) (fun _ _ _ h => h) (Or.inl ⟨by rfl, ?_⟩) ?_ ?_
      rotate_left
      · intro w'
        go_simp
        with_reducible rfl
      rotate_left
      · simp only [Act.put, List.setIfInBounds_toArray, List.set_cons_zero, List.set_cons_succ, i64_w, i32_w]
        rfl
      refine last_ (i := 7) (N := none) #[true, true, true, true, true, true, true, true] rfl rfl (by kernel_rfl) (by decide) (fun K hK => ?_)
      have hc6 : w6.cell? ⟨b, 3, none⟩ = some (.slice Ad nd cd) := (blk_cell HB6.out 3).trans rfl
      have hf6 := blk_frozen HB6.out 3
      refine skip_ (w1 := ?_) (by rfl) rfl ?_ ?_
      rotate_left
      · go_simp
        rfl
      refine hK.out _ _ ?_
      clear hK K
      refine done_ (by kernel_rfl) ?_
      have HR7 := Aside0.mk (HR6.out.far HGB.out HWB.out 3 (.slice A6 n6 c6))
      have HG7 := Aside0.mk ((Below.heap_setCell w6 ⟨b, 3, none⟩ (.slice A6 n6 c6) _ HRB.out).trans HG6.out)
      have HB7 := Aside0.mk ((blk_set HB6.out 3 (.slice A6 n6 c6)).trans rfl)
      have HO7 : Aside0 (Kd.R (Kd.int .u32) 43 (w6.setCell ⟨b, 3, none⟩ (.slice A6 n6 c6)) (b + 1) (fun j => b + 1 ≤ j) (.slice A6 n6 c6) (L ++ [plV ws q])) := ⟨Kd.R_far (p := ⟨b, 3, none⟩) HO6.out (fun j hj => Nat.ne_of_gt hj) _⟩
      have HL7 : Aside0 (((L ++ [plV ws q]).length : Int) ≤ x + 1) := ⟨by have := HL.out; simp; omega⟩
      have hw1 := i64_n hx0 hlt (Int.le_trans HNN.out.2 (by decide))
      clear HR6 HG6 HB6 HO6 HL HA hc6 hf6
      go_wp2
      go_roundw
      case rel => exact ⟨x + 1, k, A6, n6, c6, L ++ [plV ws q], plN ws q, Int.le_trans hx0 (Int.le_of_lt (Int.lt_succ x)), Int.add_one_le_of_lt hlt, by go_num, HX2, HA2, HR7, HG7, HB7, HO7, HT2, HL7⟩
      case measure => first | exact meas64 hx0 hlt | (rw [hw1]; exact meas64 hx0 hlt)
    · have hd : decide (x < n) = false := decide_eq_false hlt
      have hk : k = 0 := by have := HX.out; omega
      subst hk
      have HE : Aside0 (tot = (L, q)) := ⟨by rw [← HT.out]; simp [plL]⟩
      have hl0 := (blk_cell HB.out 0).trans rfl
      have hl1 := (blk_cell HB.out 1).trans rfl
      have hl2 := (blk_cell HB.out 2).trans rfl
      have hl3 := (blk_cell HB.out 3).trans rfl
      have hy0 := (blk_cell HG.out 0).trans rfl
      have hy1 := (blk_cell HG.out 1).trans rfl
      have hy2 := (blk_cell HG.out 2).trans rfl
      have hy3 := (blk_cell HG.out 3).trans rfl
      have hyf0 := blk_frozen HG.out 0
      have hyf1 := blk_frozen HG.out 1
      have hyf2 := blk_frozen HG.out 2
      have hyf3 := blk_frozen HG.out 3
      clear HX HT HL HA
      go_wp2
      have hfin := put4 HG.out (.int .i64 v0) (.int .i64 v1) (.int .u64 ad) (.slice Ad nd cd)
      have HR9 := Aside0.mk (HR.out.far4 HGL.out (Nat.le_refl _) (.int .i64 v0) (.int .i64 v1) (.int .u64 ad) (.slice Ad nd cd))
      have HO9 := Aside0.mk (R_far4 HO.out (Nat.lt_of_le_of_lt HWB.out (Nat.lt_succ_self b)) (.int .i64 v0) (.int .i64 v1) (.int .u64 ad) (.slice Ad nd cd))
      generalize hWF : (((wr.setCell ⟨W.heap.size, 0, none⟩ _).setCell _ _).setCell _ _).setCell _ _ = wz at *
      have hz0 := (blk_cell hfin 0).trans rfl
      have hz1 := (blk_cell hfin 1).trans rfl
      have hz2 := (blk_cell hfin 2).trans rfl
      have hz3 := (blk_cell hfin 3).trans rfl
      (try simp only [Exit.inBlock, Exit.then])
      refine bodyPost_ret (by simp [results, Try.results59, go_sem, hz0, hz1, hz2, hz3]; try rfl) rfl ?_
      exact ⟨Ad, nd, cd, by rw [HQ.out], by rw [HQ.out, HE.out]; exact Kd.R_lower (Kd.R_mono HO9.out (fun j hj => Nat.le_of_lt (Nat.lt_of_le_of_lt HWB.out hj))) (Nat.le_trans HWB.out (Nat.le_succ b)), by rw [HQ.out, HE.out]; exact HR9.out⟩
end Go.Proofs.Ytbpmmabdjabfcaa.Script
