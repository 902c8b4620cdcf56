import Derived.Test.YtndmdlnmjamgkaaCoreClock
/- CoreEnters in plain words: who is entered has its time, and each is entered within its frame's length; a row of bools. -/
namespace Go.Proofs.Ytndmdlnmjamgkaa.Core
open Go.RowKit Go.Proofs.YtndmdlnmjamgkaaW.PrintWords Go.Proofs.YtndmdlnmjamgkaaW.PrintLast Go.Proofs.YtndmdlnmjamgkaaW.PrintMore Go.Proofs.Ytndmdlnmjamgkaa.PF Go.Proofs.Ytndmdlnmjamgkaa.Frame Go.Proofs.Ytndmdlnmjamgkaa.Box
set_option linter.unusedSimpArgs false
set_option linter.unusedVariables false
/-- Whose window starts now has its time now. -/
theorem fAt_fEn {L : Int} (p : Int) (ws : List S46) : ∀ e : Int, ok L e ws = true → (fEn p ws).2 = true → fAt p ws = fEn p ws := by
  induction ws with
  | nil => intro e _ h; cases h
  | cons w r ih =>
    intro e ho h
    obtain ⟨o1, o2, o3, o4⟩ := ok_cons ho
    unfold fEn at h ⊢
    unfold fAt
    by_cases c : p = w.f1
    · rw [if_pos c, if_pos (by omega), if_pos (by omega)]
    · rw [if_neg c] at h ⊢
      have hge : ¬ p < w.f1 + w.f2 := fun hlt => by
        rw [fEn_ahead p r _ hlt o4] at h
        cases h
      rw [if_pos (by omega), if_neg hge]
      exact ih _ o4 h
theorem fEn_of (p : Int) (ws : List S46) : (fEn p ws).2 = true → ∃ j : Nat, j < ws.length ∧ (rd_T46 ws j).f0 = (fEn p ws).1 := by
  induction ws with
  | nil => intro h; cases h
  | cons w r ih =>
    intro h
    unfold fEn at h ⊢
    by_cases c : p = w.f1
    · rw [if_pos c]
      exact ⟨0, by simp, rfl⟩
    · rw [if_neg c] at h ⊢
      obtain ⟨j, hj, h1⟩ := ih h
      exact ⟨j + 1, by simp; omega, h1⟩
/-- The window that starts at a place is found there. -/
theorem fEn_start {L : Int} (ws : List S46) : ∀ (e : Int) (j : Nat), ok L e ws = true → j < ws.length → fEn (rd_T46 ws j).f1 ws = ((rd_T46 ws j).f0, true) ∧ e ≤ (rd_T46 ws j).f1 ∧ (rd_T46 ws j).f1 < L := by
  induction ws with
  | nil => intro e j _ h; simp at h
  | cons w r ih =>
    intro e j ho hj
    obtain ⟨o1, o2, o3, o4⟩ := ok_cons ho
    cases j with
    | zero =>
      refine ⟨?_, o1, by show w.f1 < L; omega⟩
      show fEn w.f1 (w :: r) = (w.f0, true)
      unfold fEn
      rw [if_pos rfl]
    | succ j =>
      obtain ⟨h1, h2, h3⟩ := ih _ j o4 (by simpa using hj)
      have e1 : rd_T46 (w :: r) ((j + 1 : Nat) : Int) = rd_T46 r (j : Int) := rfl
      rw [e1]
      refine ⟨?_, by omega, h3⟩
      unfold fEn
      rw [if_neg (by omega)]
      exact h1
/-- Who is entered: a partition of that core, and it has its time. -/
theorem En_part {L : Int} {ps : List S69} {np : Nat} {ws : List S46} {f t : Int} (hR : right L ws = true) (hm : allTo (W14 ps np ws f) ws.length) (h : (En L ws t).2 = true) :
    (0 ≤ (En L ws t).1 ∧ (En L ws t).1 < np) ∧ (rd_T69 ps (En L ws t).1).f0 = f ∧ At L ws t = ((En L ws t).1, true) := by
  unfold En at h ⊢
  unfold At
  by_cases c : may L ws t = true
  · rw [if_pos c] at h ⊢
    rw [if_pos c, fAt_fEn _ ws 0 (right_true hR).2.2.2 h]
    obtain ⟨j, hj, he⟩ := fEn_of _ ws h
    have hw := hm (j : Int) (by omega) (by omega)
    rw [← he]
    refine ⟨hw.1, hw.2, ?_⟩
    rw [he]
    exact Prod.ext rfl h
  · rw [if_neg c] at h
    cases h
/-- Of as many ticks as the frame is long, one is at that place. -/
theorem turn_at {L s n : Int} (hL : 1 ≤ L) (hs : 0 ≤ s ∧ s < L) (hn : 0 ≤ n) : ∃ d : Int, 1 ≤ d ∧ d ≤ L ∧ (n + d) % L = s := by
  refine ⟨(s - n - 1) % L + 1, by have := Int.emod_nonneg (s - n - 1) (show L ≠ 0 by omega); omega, by have := Int.emod_lt_of_pos (s - n - 1) (show 0 < L by omega); omega, ?_⟩
  rw [show n + ((s - n - 1) % L + 1) = (s - n - 1) % L + (n + 1) from by omega, Int.emod_add_emod]
  rw [show s - n - 1 + (n + 1) = s from by omega]
  exact Int.emod_eq_of_lt hs.1 hs.2
/-- Each partition with a window is entered within as many ticks as the frame is long. -/
theorem En_within {L : Int} {ws : List S46} {n p : Int} (hR : right L ws = true) (hn : 0 ≤ n ∧ n ≤ 1000) (hp : inW ws ws.length p) : ∃ d : Int, 1 ≤ d ∧ d ≤ L ∧ En L ws (n + d) = (p, true) := by
  obtain ⟨g1, g2, g3, g4⟩ := right_true hR
  obtain ⟨i, hi0, hi1, hf⟩ := hp
  obtain ⟨j, rfl⟩ : ∃ j : Nat, i = (j : Int) := ⟨i.toNat, by omega⟩
  obtain ⟨h1, h2, h3⟩ := fEn_start ws 0 j g4 (by omega)
  obtain ⟨d, d1, d2, hd⟩ := turn_at (n := n) g1 ⟨h2, h3⟩ hn.1
  refine ⟨d, d1, d2, ?_⟩
  unfold En
  rw [if_pos (may_of (by omega) (by omega) hR), hd, h1, hf]
/-! ### who has been seen -/
def seenF (f : Fr) (n : Int) : Nat → Int → Bool
  | 0, _ => false
  | i + 1, p => seenF f n i p || decide (p ∈ entV f (n + i + 1))
theorem seenF_of (f : Fr) (n p : Int) (i : Nat) : ∀ d : Nat, 1 ≤ d → d ≤ i → p ∈ entV f (n + d) → seenF f n i p = true := by
  induction i with
  | zero => intro d h1 h2; omega
  | succ i ih =>
    intro d h1 h2 h
    unfold seenF
    by_cases e : d = i + 1
    · subst e
      have e1 : n + (i : Int) + 1 = n + ((i + 1 : Nat) : Int) := by omega
      rw [e1, decide_eq_true h, Bool.or_true]
    · rw [ih d h1 (by omega) h]
      rfl
theorem ent0 {f : Fr} {t p : Int} (h : En f.l0 f.ws0 t = (p, true)) : p ∈ entV f t := by
  unfold entV
  rw [h]
  simp
theorem ent1 {f : Fr} {t p : Int} (h : En f.l1 f.ws1 t = (p, true)) : p ∈ entV f t := by
  unfold entV
  rw [h]
  simp
/-- Both frames are right, and their windows are of their core. -/
structure Rights (f : Fr) (ps : List S69) (np : Nat) : Prop where
  r0 : right f.l0 f.ws0 = true
  r1 : right f.l1 f.ws1 = true
  m0 : allTo (W14 ps np f.ws0 0) f.ws0.length
  m1 : allTo (W14 ps np f.ws1 1) f.ws1.length
  each : allTo (winOk ps f.ws0.length f.ws1.length f.ws0 f.ws1) np
theorem rights_of {f : Fr} {ps : List S69} {np : Nat} (a : Acc np f.ws0.length f.ws1.length f.l0 f.l1 ps f.ws0 f.ws1) : Rights f ps np :=
  ⟨right_all a.lens.1 a.wins.1 a.fits.1 a.apart.1, right_all a.lens.2 a.wins.2 a.fits.2 a.apart.2, a.mine.1, a.mine.2, a.each⟩
/-- Who is entered with a tick has its time then on its core. -/
theorem ent_who {f : Fr} {ps : List S69} {np : Nat} (h : Rights f ps np) {t p : Int} (hp : p ∈ entV f t) : (0 ≤ p ∧ p < np) ∧ ((rd_T69 ps p).f0 = 0 ∨ (rd_T69 ps p).f0 = 1) ∧ whoV f t (rd_T69 ps p).f0 = (p, true) := by
  unfold entV at hp
  rcases List.mem_append.mp hp with h1 | h1
  · by_cases c : (En f.l0 f.ws0 t).2 = true
    · rw [if_pos c] at h1
      have e : p = (En f.l0 f.ws0 t).1 := by simpa using h1
      have hh := En_part h.r0 h.m0 c
      rw [← e] at hh
      refine ⟨hh.1, Or.inl hh.2.1, ?_⟩
      rw [hh.2.1, who0]
      exact hh.2.2
    · rw [if_neg c] at h1
      simp at h1
  · by_cases c : (En f.l1 f.ws1 t).2 = true
    · rw [if_pos c] at h1
      have e : p = (En f.l1 f.ws1 t).1 := by simpa using h1
      have hh := En_part h.r1 h.m1 c
      rw [← e] at hh
      refine ⟨hh.1, Or.inr hh.2.1, ?_⟩
      rw [hh.2.1, who1]
      exact hh.2.2
    · rw [if_neg c] at h1
      simp at h1
/-- Who has not been seen yet: its core's frame is longer than that. -/
theorem unseen {f : Fr} {ps : List S69} {np : Nat} (h : Rights f ps np) {n p : Int} (hn : 0 ≤ n ∧ n ≤ 255) (hp : 0 ≤ p ∧ p < np) {i : Nat} (hs : seenF f n i p = false) :
    ((rd_T69 ps p).f0 = 0 ∧ (i : Int) < f.l0) ∨ ((rd_T69 ps p).f0 = 1 ∧ (i : Int) < f.l1) := by
  rcases h.each p hp.1 hp.2 with ⟨c, w⟩ | ⟨c, w⟩
  · refine Or.inl ⟨c, ?_⟩
    obtain ⟨d, d1, d2, hd⟩ := En_within (n := n) h.r0 ⟨hn.1, by omega⟩ w
    obtain ⟨k, rfl⟩ : ∃ k : Nat, d = (k : Int) := ⟨d.toNat, by omega⟩
    by_cases hlt : (i : Int) < f.l0
    · exact hlt
    · rw [seenF_of f n p i k (by omega) (by omega) (ent0 hd)] at hs
      cases hs
  · refine Or.inr ⟨c, ?_⟩
    obtain ⟨d, d1, d2, hd⟩ := En_within (n := n) h.r1 ⟨hn.1, by omega⟩ w
    obtain ⟨k, rfl⟩ : ∃ k : Nat, d = (k : Int) := ⟨d.toNat, by omega⟩
    by_cases hlt : (i : Int) < f.l1
    · exact hlt
    · rw [seenF_of f n p i k (by omega) (by omega) (ent1 hd)] at hs
      cases hs
/-! ### a row of bools -/
def boolL (n : Nat) (F : Int → Bool) : List Bool := (List.range n).map (fun p : Nat => F (p : Int))
theorem boolL_len (n : Nat) (F : Int → Bool) : (boolL n F).length = n := by simp [boolL]
theorem boolL_get (n : Nat) (F : Int → Bool) (i : Nat) (h : i < n) : (boolL n F)[i]? = some (F i) := by simp [boolL, h]
theorem boolL_congr {n : Nat} {F G : Int → Bool} (h : ∀ i : Nat, i < n → F i = G i) : boolL n F = boolL n G := by
  unfold boolL
  exact List.map_congr_left (fun i hi => h i (List.mem_range.mp hi))
theorem boolL_set (n : Nat) (F : Int → Bool) (q : Nat) (v : Bool) : (boolL n F).set q v = boolL n (fun p => if p = (q : Int) then v else F p) := by
  apply List.ext_getElem?
  intro i
  by_cases hi : i < n
  · rw [List.getElem?_set, boolL_len]
    by_cases e : q = i
    · subst e
      rw [if_pos rfl, if_pos hi]
      exact (by rw [boolL_get _ _ _ hi, if_pos rfl])
    · rw [if_neg e, boolL_get _ _ _ hi, boolL_get _ _ _ hi, if_neg (by omega)]
  · rw [List.getElem?_eq_none (by rw [List.length_set, boolL_len]; omega), List.getElem?_eq_none (by rw [boolL_len]; omega)]
/-- Block h is a row of these bools. -/
structure RowB (W : World) (h : Nat) (H : List Bool) : Prop where
  blk : W.heap[h]? = some (.cells (H.map Value.bool).toArray 4 (0, 0))
theorem RowB.to {W W' : World} {h : Nat} {H : List Bool} (r : RowB W h H) (hb : Below W.heap.size W W') : RowB W' h H := ⟨blk_below r.blk hb⟩
theorem RowB.cell {W : World} {h : Nat} {H : List Bool} (r : RowB W h H) {i : Nat} {v : Bool} (hi : H[i]? = some v) : W.cell? ⟨h, i, none⟩ = some (.bool v) := by
  refine (blk_cell r.blk i).trans ?_
  simp [hi]
theorem RowB.frz {W : World} {h : Nat} {H : List Bool} (r : RowB W h H) (i : Nat) : W.frozen? ⟨h, i, none⟩ = false := blk_frozen r.blk i
theorem RowB.lt {W : World} {h : Nat} {H : List Bool} (r : RowB W h H) : h < W.heap.size := blk_lt r.blk
theorem RowB.set {W : World} {h : Nat} {H : List Bool} (r : RowB W h H) (i : Nat) (v : Bool) : RowB (W.setCell ⟨h, i, none⟩ (.bool v)) h (H.set i v) :=
  ⟨(blk_set r.blk i (.bool v)).trans (by rw [List.setIfInBounds_toArray, List.map_set])⟩
theorem RowB.keep {W W' : World} {h g : Nat} {H : List Bool} (r : RowB W h H) (hk : KeepBut W W' g none) (hne : h ≠ g) : RowB W' h H := ⟨hk.blk r.blk hne (by simp)⟩
theorem madeBools (m : Nat) (h : m ≤ 6) : madeCells #[.bool false] m = ((boolL m (fun _ => false)).map Value.bool).toArray := by
  have h0 : madeCells #[.bool false] 0 = ((boolL 0 (fun _ => false)).map Value.bool).toArray := by kernel_rfl
  have h1 : madeCells #[.bool false] 1 = ((boolL 1 (fun _ => false)).map Value.bool).toArray := by kernel_rfl
  have h2 : madeCells #[.bool false] 2 = ((boolL 2 (fun _ => false)).map Value.bool).toArray := by kernel_rfl
  have h3 : madeCells #[.bool false] 3 = ((boolL 3 (fun _ => false)).map Value.bool).toArray := by kernel_rfl
  have h4 : madeCells #[.bool false] 4 = ((boolL 4 (fun _ => false)).map Value.bool).toArray := by kernel_rfl
  have h5 : madeCells #[.bool false] 5 = ((boolL 5 (fun _ => false)).map Value.bool).toArray := by kernel_rfl
  have h6 : madeCells #[.bool false] 6 = ((boolL 6 (fun _ => false)).map Value.bool).toArray := by kernel_rfl
  match m, h with
  | 0, _ => exact h0
  | 1, _ => exact h1
  | 2, _ => exact h2
  | 3, _ => exact h3
  | 4, _ => exact h4
  | 5, _ => exact h5
  | 6, _ => exact h6
theorem info_bool : (Try.prog.info? 4).map (fun i => (i.zero, i.size, i.bytes)) = some (some (.bool false), 1, 1) := by kernel_rfl
theorem make_bools (m : Nat) (hm : m ≤ 6) (W : World) : (Instr.makeSlice 66 (.int .i64 (m : Int)) (.int .i64 (m : Int))).run Try.prog W = .ok (.slice (some ⟨W.heap.size, 0, none⟩) m m) (W.alloc (.cells ((boolL m (fun _ => false)).map Value.bool).toArray 4)) := by
  rw [← madeBools m hm]
  exact print_make_of 66 4 (.bool false) 1 Try.underlying66 info_bool (by rfl) (by decide) m (by omega) W
/-- Seen behind so many of a tick's entries. -/
def seenK (f : Fr) (n : Int) (i k : Nat) (p : Int) : Bool := seenF f n i p || decide (p ∈ (entV f (n + i + 1)).take k)
theorem rowB_start {W : World} {h np : Nat} {f : Fr} {n : Int} {i : Nat} (H : RowB W h (boolL np (seenF f n i))) : RowB W h (boolL np (seenK f n i 0)) := by
  rw [boolL_congr (G := seenF f n i) (fun p hp => by unfold seenK; simp)]
  exact H
theorem rowB_put {W : World} {h np : Nat} {f : Fr} {n : Int} {i k q : Nat} (hk : k < (entV f (n + i + 1)).length) (hq : (entV f (n + i + 1)).getD k 0 = (q : Int)) (H : RowB W h (boolL np (seenK f n i k))) :
    RowB (W.setCell ⟨h, q, none⟩ (.bool true)) h (boolL np (seenK f n i (k + 1))) := by
  rw [boolL_congr (F := seenK f n i (k + 1)) (G := fun p => if p = (q : Int) then true else seenK f n i k p) (fun p hp => by
    unfold seenK
    have ht : (entV f (n + i + 1)).take (k + 1) = (entV f (n + i + 1)).take k ++ [(q : Int)] := by
      rw [List.take_succ_eq_append_getElem hk]
      congr 2
      rw [← hq, List.getD_eq_getElem?_getD, List.getElem?_eq_getElem hk]
      rfl
    rw [ht]
    by_cases e : (p : Int) = (q : Int)
    · simp [e]
    · simp [e]), ← boolL_set]
  exact H.set q true
theorem rowB_end {W : World} {h np : Nat} {f : Fr} {n : Int} {i k : Nat} (hk : (entV f (n + i + 1)).length ≤ k) (H : RowB W h (boolL np (seenK f n i k))) : RowB W h (boolL np (seenF f n (i + 1))) := by
  rw [boolL_congr (G := seenK f n i k) (fun p hp => by unfold seenK; rw [List.take_of_length_le hk]; rfl)]
  exact H
/-- An entry of a row of ints that is read. -/
theorem at_I {w : World} {A : Option Addr} {n : Nat} {xs : List Int} (h : Kd.C (Kd.int .i64) w A n xs) (i : Int) (h0 : 0 ≤ i) (h1 : i < n) : ∃ ad, A = some ad ∧ w.cell? (ad.add i.toNat) = some (.int .i64 (xs.getD i.toNat 0)) := by
  obtain ⟨ad, c, e, _, hK, hc0⟩ := Kd.C_get h 0 i h0 h1
  have hc : ∀ j u, c[j]? = some u → w.cell? (ad.add (i.toNat * 1 + j)) = some u := hc0
  have hK' : c = [.int .i64 (xs.getD i.toNat 0)] := hK
  subst hK'
  have := hc 0 _ rfl
  rw [Nat.add_zero, Nat.mul_one] at this
  exact ⟨ad, e, this⟩
end Go.Proofs.Ytndmdlnmjamgkaa.Core
