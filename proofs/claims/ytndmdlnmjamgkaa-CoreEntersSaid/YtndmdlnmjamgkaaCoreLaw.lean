import Derived.Test.YtndmdlnmjamgkaaCoreOpn
import Derived.Test.YtndmdlnmjamgkaaCoreWakes
/- What layer 7 accepts is right for layers 9 and 15; counting a frame's ticks; a row of numbers of the call's own. -/
namespace Go.Proofs.Ytndmdlnmjamgkaa.Core
open Go.RowKit Go.Proofs.YtndmdlnmjamgkaaW.PrintWords Go.Proofs.YtndmdlnmjamgkaaW.PrintLast Go.Proofs.YtndmdlnmjamgkaaW.PrintMore Go.Proofs.Ytndmdlnmjamgkaa.PF Go.Proofs.Ytndmdlnmjamgkaa.Frame Go.Proofs.Ytndmdlnmjamgkaa.Box
set_option linter.unusedSimpArgs false
set_option linter.unusedVariables false
/-! ### frames -/
theorem ok_of {L : Int} {ws : List S46} (hL : 1 ≤ L ∧ L ≤ 64) (hf : allTo (W15 L ws) ws.length) (ha : allTo (W16 ws) ws.length) (m : Nat) : ∀ (j : Nat) (e : Int), ws.length - j = m → j ≤ ws.length → (j < ws.length → e ≤ (rd_T46 ws j).f1) → ok L e (ws.drop j) = true := by
  induction m with
  | zero =>
    intro j e hm hj _
    rw [List.drop_of_length_le (by omega)]
    cases e <;> rfl
  | succ m ih =>
    intro j e hm hj he
    have hlt : j < ws.length := by omega
    obtain ⟨f0, f1, f2, f3⟩ := hf (j : Int) (by omega) (by omega)
    have he' := he hlt
    rw [show wrap64 (L - (rd_T46 ws (j : Int)).f1) = L - (rd_T46 ws (j : Int)).f1 from by unfold wrap64; omega] at f3
    rw [drop_rd ws j hlt]
    unfold ok
    rw [if_neg (by omega), if_neg (by omega), if_neg (by omega), if_neg (by omega)]
    refine ih (j + 1) _ (by omega) (by omega) (fun h => ?_)
    obtain ⟨g0, g1, g2, g3⟩ := hf ((j + 1 : Nat) : Int) (by omega) (by omega)
    have h16 := ha ((j + 1 : Nat) : Int) (by omega) (by omega)
    unfold W16 at h16
    rw [show (((j + 1 : Nat) : Int) - 1) = (j : Int) from by omega] at h16
    have := h16 (by omega) ⟨by omega, by omega⟩ ⟨by omega, by omega⟩ ⟨by omega, by omega⟩
    rw [show wrap64 ((rd_T46 ws (j : Int)).f1 + (rd_T46 ws (j : Int)).f2) = (rd_T46 ws (j : Int)).f1 + (rd_T46 ws (j : Int)).f2 from by unfold wrap64; omega] at this
    exact this
theorem ok_all {L : Int} {ws : List S46} (hL : 1 ≤ L ∧ L ≤ 64) (hf : allTo (W15 L ws) ws.length) (ha : allTo (W16 ws) ws.length) : ok L 0 ws = true := by
  have h := ok_of hL hf ha ws.length 0 0 (by omega) (by omega) (fun h => (hf 0 (by omega) (by omega)).1)
  simpa using h
theorem right_all {L : Int} {ws : List S46} (hL : 1 ≤ L ∧ L ≤ 64) (hn : (ws.length : Int) ≤ 16) (hf : allTo (W15 L ws) ws.length) (ha : allTo (W16 ws) ws.length) : right L ws = true := by
  unfold right
  rw [if_neg (by omega), if_neg (by omega), if_neg (by omega)]
  exact ok_all hL hf ha
/-- Whoever's time it is or who is entered: of one of the windows. -/
theorem fAt_of (p : Int) (ws : List S46) : (fAt p ws).2 = true → ∃ j : Nat, j < ws.length ∧ (rd_T46 ws j).f0 = (fAt p ws).1 ∧ (rd_T46 ws j).f1 ≤ p ∧ p < (rd_T46 ws j).f1 + (rd_T46 ws j).f2 := by
  induction ws with
  | nil => intro h; cases h
  | cons w r ih =>
    intro h
    unfold fAt at h ⊢
    by_cases c : w.f1 ≤ p
    · rw [if_pos c] at h ⊢
      by_cases d : p < w.f1 + w.f2
      · rw [if_pos d]
        exact ⟨0, by simp, rfl, c, d⟩
      · rw [if_neg d] at h ⊢
        obtain ⟨j, hj, h1, h2, h3⟩ := ih h
        exact ⟨j + 1, by simp; omega, h1, h2, h3⟩
    · rw [if_neg c] at h ⊢
      obtain ⟨j, hj, h1, h2, h3⟩ := ih h
      exact ⟨j + 1, by simp; omega, h1, h2, h3⟩
theorem At_of {L : Int} {ws : List S46} {t : Int} (h : (At L ws t).2 = true) : ∃ j : Nat, j < ws.length ∧ (rd_T46 ws j).f0 = (At L ws t).1 := by
  unfold At at h ⊢
  by_cases c : may L ws t = true
  · rw [if_pos c] at h ⊢
    obtain ⟨j, hj, h1, _⟩ := fAt_of _ _ h
    exact ⟨j, hj, h1⟩
  · rw [if_neg c] at h
    cases h
/-- Whoever's time it is is a partition of that core. -/
theorem At_part {L : Int} {ps : List S69} {np : Nat} {ws : List S46} {f t : Int} (hm : allTo (W14 ps np ws f) ws.length) (h : (At L ws t).2 = true) : 0 ≤ (At L ws t).1 ∧ (At L ws t).1 < np ∧ (rd_T69 ps (At L ws t).1).f0 = f := by
  obtain ⟨j, hj, he⟩ := At_of h
  rw [← he]
  have := hm (j : Int) (by omega) (by omega)
  exact ⟨this.1.1, this.1.2, this.2⟩
/-! ### counting -/
def cnt (G : Int → Int) : Int → Nat → Int
  | _, 0 => 0
  | u, n + 1 => G u + cnt G (u + 1) n
theorem cnt_split (G : Int → Int) (m : Nat) : ∀ (u : Int) (n : Nat), cnt G u (m + n) = cnt G u m + cnt G (u + m) n := by
  induction m with
  | zero => intro u n; simp [cnt]
  | succ m ih =>
    intro u n
    rw [show m + 1 + n = (m + n) + 1 from by omega]
    simp only [cnt]
    rw [ih, show u + 1 + (m : Int) = u + ((m + 1 : Nat) : Int) from by omega]
    omega
theorem cnt_snoc (G : Int → Int) (u : Int) (n : Nat) : cnt G u (n + 1) = cnt G u n + G (u + n) := by
  rw [cnt_split G n u 1]
  simp only [cnt]
  omega
theorem cnt_const (G : Int → Int) (c : Int) (n : Nat) : ∀ u : Int, (∀ i, u ≤ i → i < u + n → G i = c) → cnt G u n = n * c := by
  induction n with
  | zero => intro u _; simp [cnt]
  | succ n ih =>
    intro u h
    simp only [cnt]
    rw [h u (by omega) (by omega), ih (u + 1) (fun i h1 h2 => h i (by omega) (by omega))]
    rw [show ((n + 1 : Nat) : Int) = (n : Int) + 1 from by omega, Int.add_mul]
    omega
theorem cnt_congr (G G' : Int → Int) (n : Nat) : ∀ u : Int, (∀ i, u ≤ i → i < u + n → G i = G' i) → cnt G u n = cnt G' u n := by
  induction n with
  | zero => intro u _; rfl
  | succ n ih =>
    intro u h
    simp only [cnt]
    rw [h u (by omega) (by omega), ih (u + 1) (fun i h1 h2 => h i (by omega) (by omega))]
theorem cnt_turn (G : Int → Int) (L : Nat) (hp : ∀ i, 0 ≤ i → G (i + L) = G i) (u : Nat) : cnt G u L = cnt G 0 L := by
  induction u with
  | zero => rfl
  | succ u ih =>
    have h1 := cnt_split G L (u : Int) 1
    have h2 : cnt G (u : Int) (L + 1) = G u + cnt G ((u : Int) + 1) L := rfl
    have h3 : cnt G ((u : Int) + L) 1 = G ((u : Int) + L) + 0 := rfl
    rw [hp u (by omega)] at h3
    rw [show ((u + 1 : Nat) : Int) = (u : Int) + 1 from by omega]
    omega
theorem cnt_le (G : Int → Int) (h : ∀ i, 0 ≤ G i ∧ G i ≤ 1) (n : Nat) : ∀ u, 0 ≤ cnt G u n ∧ cnt G u n ≤ n := by
  induction n with
  | zero => intro u; simp [cnt]
  | succ n ih =>
    intro u
    have h1 := h u
    have h2 := ih (u + 1)
    simp only [cnt]
    omega
def isP (part : Int) (r : Int × Bool) : Int := if r.2 = true then (if r.1 = part then 1 else 0) else 0
theorem isP_01 (part : Int) (r : Int × Bool) : 0 ≤ isP part r ∧ isP part r ≤ 1 := by unfold isP; split <;> (try split) <;> omega
/-- The ticks of a partition's windows. -/
def SL (part : Int) : List S46 → Int
  | [] => 0
  | w :: r => (if w.f0 = part then w.f2 else 0) + SL part r
theorem SL_le (L part : Int) (ws : List S46) : ∀ e : Int, e ≤ L → ok L e ws = true → 0 ≤ SL part ws ∧ SL part ws ≤ L - e := by
  induction ws with
  | nil => intro e he _; simp [SL]; omega
  | cons w r ih =>
    intro e he h
    obtain ⟨h1, h2, h3, h4⟩ := ok_cons h
    have := ih _ h3 h4
    simp only [SL]
    split <;> omega
theorem open_count (L part : Int) (ws : List S46) : ∀ e : Int, e ≤ L → ok L e ws = true → cnt (fun p => isP part (fAt p ws)) e (L - e).toNat = SL part ws := by
  induction ws with
  | nil =>
    intro e he _
    rw [cnt_const (fun p => isP part (fAt p [])) 0 _ e (fun i _ _ => rfl)]; simp [SL]
  | cons w r ih =>
    intro e he h
    obtain ⟨h1, h2, h3, h4⟩ := ok_cons h
    rw [show (L - e).toNat = (w.f1 - e).toNat + (w.f2.toNat + (L - (w.f1 + w.f2)).toNat) from by omega, cnt_split, cnt_split]
    rw [cnt_const _ 0 _ e (fun i i1 i2 => by
      show isP part (fAt i (w :: r)) = 0
      rw [show fAt i (w :: r) = (0, false) from by
        unfold fAt; rw [if_neg (by omega)]; exact fAt_ahead i r _ (by omega) h4]; rfl)]
    rw [show e + ((w.f1 - e).toNat : Int) = w.f1 from by omega]
    rw [cnt_const _ (if w.f0 = part then 1 else 0) _ w.f1 (fun i i1 i2 => by
      show isP part (fAt i (w :: r)) = _
      rw [show fAt i (w :: r) = (w.f0, true) from by unfold fAt; rw [if_pos (by omega), if_pos (by omega)]]; rfl)]
    rw [show w.f1 + (w.f2.toNat : Int) = w.f1 + w.f2 from by omega]
    rw [cnt_congr _ (fun p => isP part (fAt p r)) _ (w.f1 + w.f2) (fun i i1 i2 => by
      show isP part (fAt i (w :: r)) = _
      rw [show fAt i (w :: r) = fAt i r from by unfold fAt; rw [if_pos (by omega), if_neg (by omega)]; cases r <;> rfl])]
    rw [ih _ h3 h4]
    simp only [SL]
    by_cases c : w.f0 = part
    · rw [if_pos c, if_pos c]; omega
    · rw [if_neg c, if_neg c]; omega
/-- In a whole turn from any tick: as long as its windows are together. -/
theorem turn_count {L : Int} {ws : List S46} (hr : right L ws = true) (part : Int) (b : Nat) (hb : (b : Int) ≤ 1000) : cnt (fun t => isP part (At L ws t)) b L.toNat = SL part ws := by
  obtain ⟨g1, g2, g3, g4⟩ := right_true hr
  obtain ⟨l, hl⟩ : ∃ l : Nat, (l : Int) = L := ⟨L.toNat, by omega⟩
  have hl2 : L.toNat = l := by omega
  rw [cnt_congr _ (fun q => isP part (fAt (q % L) ws)) _ (b : Int) (fun i i1 i2 => by
    show isP part (At L ws i) = _
    unfold At; rw [may_of (by omega) (by omega) hr, if_pos rfl])]
  rw [hl2, cnt_turn (fun q => isP part (fAt (q % L) ws)) l (fun i i0 => by show isP part (fAt ((i + (l : Int)) % L) ws) = _; rw [hl, Int.add_emod_right]) b]
  rw [cnt_congr _ (fun q => isP part (fAt q ws)) _ 0 (fun i i1 i2 => by show isP part (fAt (i % L) ws) = _; rw [Int.emod_eq_of_lt i1 (by omega)])]
  have h := open_count L part ws 0 (by omega) g4
  rw [show (L - 0).toNat = l from by omega] at h
  exact h
/-! ### a row of numbers -/
def hadL (n : Nat) (F : Int → Int) : List Int := (List.range n).map (fun p : Nat => F (p : Int))
theorem hadL_len (n : Nat) (F : Int → Int) : (hadL n F).length = n := by simp [hadL]
theorem hadL_get (n : Nat) (F : Int → Int) (i : Nat) (h : i < n) : (hadL n F)[i]? = some (F i) := by simp [hadL, h]
theorem hadL_congr {n : Nat} {F G : Int → Int} (h : ∀ i : Nat, i < n → F i = G i) : hadL n F = hadL n G := by
  unfold hadL
  exact List.map_congr_left (fun i hi => h i (List.mem_range.mp hi))
theorem hadL_set (n : Nat) (F : Int → Int) (q : Nat) (v : Int) : (hadL n F).set q v = hadL n (fun p => if p = (q : Int) then v else F p) := by
  apply List.ext_getElem?
  intro i
  by_cases hi : i < n
  · rw [List.getElem?_set, hadL_get _ _ _ hi, hadL_len]
    by_cases e : q = i
    · subst e
      rw [if_pos rfl, if_pos hi]
      exact (by rw [hadL_get _ _ _ hi, if_pos rfl])
    · rw [if_neg e, hadL_get _ _ _ hi, if_neg (by omega)]
  · rw [List.getElem?_eq_none (by rw [List.length_set, hadL_len]; omega), List.getElem?_eq_none (by rw [hadL_len]; omega)]
/-- Block h is a row of these numbers. -/
structure Row (W : World) (h : Nat) (H : List Int) : Prop where
  blk : W.heap[h]? = some (.cells (H.map (Value.int .i64)).toArray 3 (0, 0))
theorem Row.to {W W' : World} {h : Nat} {H : List Int} (r : Row W h H) (hb : Below W.heap.size W W') : Row W' h H := ⟨blk_below r.blk hb⟩
theorem Row.cell {W : World} {h : Nat} {H : List Int} (r : Row W h H) {i : Nat} {v : Int} (hi : H[i]? = some v) : W.cell? ⟨h, i, none⟩ = some (.int .i64 v) := by
  refine (blk_cell r.blk i).trans ?_
  simp [hi]
theorem Row.frz {W : World} {h : Nat} {H : List Int} (r : Row W h H) (i : Nat) : W.frozen? ⟨h, i, none⟩ = false := blk_frozen r.blk i
theorem Row.lt {W : World} {h : Nat} {H : List Int} (r : Row W h H) : h < W.heap.size := blk_lt r.blk
theorem Row.set {W : World} {h : Nat} {H : List Int} (r : Row W h H) (i : Nat) (v : Int) : Row (W.setCell ⟨h, i, none⟩ (.int .i64 v)) h (H.set i v) :=
  ⟨(blk_set r.blk i (.int .i64 v)).trans (by rw [List.setIfInBounds_toArray, List.map_set])⟩
theorem Row.keep {W W' : World} {h g : Nat} {H : List Int} (r : Row W h H) (hk : KeepBut W W' g none) (hne : h ≠ g) : Row W' h H := ⟨hk.blk r.blk hne (by simp)⟩
theorem madeInts (m : Nat) (h : m ≤ 6) : madeCells #[.int .i64 0] m = ((hadL m (fun _ => 0)).map (Value.int .i64)).toArray := by
  have h0 : madeCells #[.int .i64 0] 0 = ((hadL 0 (fun _ => 0)).map (Value.int .i64)).toArray := by kernel_rfl
  have h1 : madeCells #[.int .i64 0] 1 = ((hadL 1 (fun _ => 0)).map (Value.int .i64)).toArray := by kernel_rfl
  have h2 : madeCells #[.int .i64 0] 2 = ((hadL 2 (fun _ => 0)).map (Value.int .i64)).toArray := by kernel_rfl
  have h3 : madeCells #[.int .i64 0] 3 = ((hadL 3 (fun _ => 0)).map (Value.int .i64)).toArray := by kernel_rfl
  have h4 : madeCells #[.int .i64 0] 4 = ((hadL 4 (fun _ => 0)).map (Value.int .i64)).toArray := by kernel_rfl
  have h5 : madeCells #[.int .i64 0] 5 = ((hadL 5 (fun _ => 0)).map (Value.int .i64)).toArray := by kernel_rfl
  have h6 : madeCells #[.int .i64 0] 6 = ((hadL 6 (fun _ => 0)).map (Value.int .i64)).toArray := by kernel_rfl
  match m, h with
  | 0, _ => exact h0
  | 1, _ => exact h1
  | 2, _ => exact h2
  | 3, _ => exact h3
  | 4, _ => exact h4
  | 5, _ => exact h5
  | 6, _ => exact h6
theorem make_ints (m : Nat) (hm : m ≤ 6) (W : World) : (Instr.makeSlice 32 (.int .i64 (m : Int)) (.int .i64 (m : Int))).run Try.prog W = .ok (.slice (some ⟨W.heap.size, 0, none⟩) m m) (W.alloc (.cells ((hadL m (fun _ => 0)).map (Value.int .i64)).toArray 3)) := by
  rw [← madeInts m hm]
  exact print_make 32 3 .i64 8 Try.underlying32 info_int (by decide) m (by omega) W
/-- The row in the making, for a store. -/
theorem had_add (n : Nat) (F : Int → Int) (q : Nat) (v : Int) {G : Int → Int} (hG : ∀ i : Nat, i < n → G i = if (i : Int) = (q : Int) then v else F i) : (hadL n F).set q v = hadL n G := by
  rw [hadL_set]
  exact hadL_congr (fun i hi => (hG i hi).symm)
/-- What each partition has had behind i ticks from n on. -/
def hadT (L : Int) (ws : List S46) (n : Int) (i : Nat) (p : Int) : Int := cnt (fun t => isP p (At L ws t)) n i
theorem hadT_le (L : Int) (ws : List S46) (n : Int) (i : Nat) (p : Int) : 0 ≤ hadT L ws n i p ∧ hadT L ws n i p ≤ i := cnt_le _ (fun t => isP_01 _ _) i n
/-- What is left of each partition's windows from place j on. -/
def hadS (ws : List S46) (j : Nat) (p : Int) : Int := SL p (ws.drop j)
theorem row_zero {W : World} {h np : Nat} {L : Int} {ws : List S46} {n : Int} (H : Row W h (hadL np (fun _ => 0))) : Row W h (hadL np (hadT L ws n 0)) := H
theorem row_none {W : World} {h np : Nat} {L : Int} {ws : List S46} {n : Int} {i : Nat} {q : Int} (hr : At L ws (n + i) = (q, false)) (H : Row W h (hadL np (hadT L ws n i))) : Row W h (hadL np (hadT L ws n (i + 1))) := by
  rw [hadL_congr (G := hadT L ws n i) (fun p hp => by
    unfold hadT
    rw [cnt_snoc]
    show _ + isP _ (At L ws (n + (i : Int))) = _
    rw [hr]
    simp [isP])]
  exact H
theorem row_more {W : World} {h np : Nat} {L : Int} {ws : List S46} {n : Int} {i qn : Nat} {v : Int} (hr : At L ws (n + i) = ((qn : Int), true)) (hv : hadT L ws n i qn = v) (H : Row W h (hadL np (hadT L ws n i))) :
    Row (W.setCell ⟨h, qn, none⟩ (.int .i64 (v + 1))) h (hadL np (hadT L ws n (i + 1))) := by
  rw [← had_add np (hadT L ws n i) qn (v + 1) (fun p hp => by
    unfold hadT at hv ⊢
    rw [cnt_snoc]
    show _ + isP _ (At L ws (n + (i : Int))) = _
    rw [hr]
    by_cases e : (p : Int) = (qn : Int)
    · rw [if_pos e, e, hv]; simp [isP]
    · rw [if_neg e]; simp only [isP, if_true]; rw [if_neg (fun h => e h.symm)]; omega)]
  exact H.set qn (v + 1)
theorem row_turn {W : World} {h np : Nat} {L : Int} {ws : List S46} {n : Int} {i : Nat} (hR : right L ws = true) (hn : 0 ≤ n ∧ n ≤ 1000) (hi : i = L.toNat) (H : Row W h (hadL np (hadT L ws n i))) : Row W h (hadL np (hadS ws 0)) := by
  rw [hadL_congr (G := hadT L ws n i) (fun p hp => by
    obtain ⟨b, hb⟩ : ∃ b : Nat, (b : Int) = n := ⟨n.toNat, by omega⟩
    unfold hadT hadS
    rw [hi, ← hb, turn_count hR _ b (by omega)]
    rfl)]
  exact H
theorem hadS_step {ws : List S46} {j : Nat} (hj : j < ws.length) (p : Int) : hadS ws j p = (if (rd_T46 ws j).f0 = p then (rd_T46 ws j).f2 else 0) + hadS ws (j + 1) p := by
  unfold hadS
  rw [drop_rd ws j hj]
  rfl
/-- What a store of a window's ticks needs. -/
theorem hadS_le {L : Int} {ws : List S46} (hR : right L ws = true) {j : Nat} (hj : j < ws.length) (p : Int) : (0 ≤ hadS ws j p ∧ hadS ws j p ≤ 64) ∧ 1 ≤ (rd_T46 ws j).f2 ∧ (rd_T46 ws j).f2 ≤ 64 := by
  obtain ⟨g1, g2, g3, g4⟩ := right_true hR
  obtain ⟨e, he, ho⟩ := ok_drop ws j 0 (by omega) g4
  have ho' := ho
  rw [drop_rd ws j hj] at ho'
  obtain ⟨o1, o2, o3, o4⟩ := ok_cons ho'
  have := SL_le L p (ws.drop j) e (by omega) ho
  unfold hadS
  omega
theorem row_less {W : World} {h np : Nat} {ws : List S46} {j qn : Nat} {v a2 : Int} (hj : j < ws.length) (h0 : (rd_T46 ws j).f0 = (qn : Int)) (h2 : (rd_T46 ws j).f2 = a2) (hv : hadS ws j qn = v) (H : Row W h (hadL np (hadS ws j))) :
    Row (W.setCell ⟨h, qn, none⟩ (.int .i64 (v - a2))) h (hadL np (hadS ws (j + 1))) := by
  rw [← had_add np (hadS ws j) qn (v - a2) (fun p hp => by
    have h1 := hadS_step hj (p : Int)
    rw [h0, h2] at h1
    by_cases e : (p : Int) = (qn : Int)
    · rw [if_pos e]; rw [e] at h1 ⊢; rw [if_pos rfl, hv] at h1; omega
    · rw [if_neg e]; rw [if_neg (fun h => e h.symm)] at h1; omega)]
  exact H.set qn (v - a2)
theorem row_end {W : World} {h np : Nat} {ws : List S46} {j : Nat} (hj : ws.length ≤ j) (H : Row W h (hadL np (hadS ws j))) : Row W h (hadL np (fun _ => 0)) := by
  rw [hadL_congr (G := hadS ws j) (fun p hp => by unfold hadS; rw [List.drop_of_length_le hj]; rfl)]
  exact H
end Go.Proofs.Ytndmdlnmjamgkaa.Core
