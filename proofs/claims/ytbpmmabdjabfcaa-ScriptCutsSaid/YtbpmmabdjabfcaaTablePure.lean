import Derived.Test.YtbpmmabdjabfcaaTableNums
/- Package table, the plain law (no program): what is printed is parsed as it was; what is parsed is printed as it was. Written by wip/tablepure.py. -/
namespace Go.Proofs.Ytbpmmabdjabfcaa.Table
open Go.RowKit Go.Proofs.YtbpmmabdjabfcaaW.PrintWords Go.Proofs.YtbpmmabdjabfcaaW.PrintLast Go.Proofs.YtbpmmabdjabfcaaW.PrintMore Go.Proofs.Ytbpmmabdjabfcaa.Box Go.Proofs.Ytbpmmabdjabfcaa.PT
set_option linter.unusedSimpArgs false
theorem parts_cons (a0 a1 : Int) (l : List Int) (n : Nat) : parts (a0 :: a1 :: l) (n + 1) = (⟨a0, a1⟩ : S64) :: parts l n := by
  unfold parts
  rw [List.range_succ_eq_map, List.map_cons, List.map_map]
  congr 1
theorem fP_len (ps : List S64) : (ps.flatMap fP).length = 2 * ps.length := by
  induction ps with
  | nil => rfl
  | cons y r ih => rw [List.flatMap_cons, List.length_append, ih, List.length_cons, show (fP y).length = 2 from rfl]; omega
theorem parts_of (ps : List S64) (r : List Int) : parts (ps.flatMap fP ++ r) ps.length = ps := by
  induction ps with
  | nil => rfl
  | cons y q ih =>
    rw [List.flatMap_cons, List.length_cons, List.append_assoc]
    show parts (y.f0 :: y.f1 :: (q.flatMap fP ++ r)) (q.length + 1) = y :: q
    rw [parts_cons, ih]
theorem fP_drop (ps : List S64) (r : List Int) : (ps.flatMap fP ++ r).drop (2 * ps.length) = r := by
  rw [← fP_len, List.drop_left]
theorem parts_back : ∀ (n : Nat) (l : List Int), 2 * n ≤ l.length → (parts l n).flatMap fP = l.take (2 * n)
  | 0, l, _ => by simp [parts]
  | n + 1, l, h => by
    match l, h with
    | a0 :: a1 :: r, h =>
      rw [parts_cons, List.flatMap_cons, parts_back n r (by simp only [List.length_cons] at h; omega), show 2 * (n + 1) = 2 * n + 2 by omega]
      rfl
    | [], h => simp only [List.length_cons, List.length_nil] at h; omega
    | [a0], h => simp only [List.length_cons, List.length_nil] at h; omega
theorem chans_cons (a0 a1 a2 a3 a4 a5 a6 : Int) (l : List Int) (n : Nat) : chans (a0 :: a1 :: a2 :: a3 :: a4 :: a5 :: a6 :: l) (n + 1) = (⟨a0, a1, a2, a3, a4, a5, a6⟩ : S68) :: chans l n := by
  unfold chans
  rw [List.range_succ_eq_map, List.map_cons, List.map_map]
  congr 1
theorem fX_len (ps : List S68) : (ps.flatMap fX).length = 7 * ps.length := by
  induction ps with
  | nil => rfl
  | cons y r ih => rw [List.flatMap_cons, List.length_append, ih, List.length_cons, show (fX y).length = 7 from rfl]; omega
theorem chans_of (ps : List S68) (r : List Int) : chans (ps.flatMap fX ++ r) ps.length = ps := by
  induction ps with
  | nil => rfl
  | cons y q ih =>
    rw [List.flatMap_cons, List.length_cons, List.append_assoc]
    show chans (y.f0 :: y.f1 :: y.f2 :: y.f3 :: y.f4 :: y.f5 :: y.f6 :: (q.flatMap fX ++ r)) (q.length + 1) = y :: q
    rw [chans_cons, ih]
theorem fX_drop (ps : List S68) (r : List Int) : (ps.flatMap fX ++ r).drop (7 * ps.length) = r := by
  rw [← fX_len, List.drop_left]
theorem chans_back : ∀ (n : Nat) (l : List Int), 7 * n ≤ l.length → (chans l n).flatMap fX = l.take (7 * n)
  | 0, l, _ => by simp [chans]
  | n + 1, l, h => by
    match l, h with
    | a0 :: a1 :: a2 :: a3 :: a4 :: a5 :: a6 :: r, h =>
      rw [chans_cons, List.flatMap_cons, chans_back n r (by simp only [List.length_cons] at h; omega), show 7 * (n + 1) = 7 * n + 7 by omega]
      rfl
    | [], h => simp only [List.length_cons, List.length_nil] at h; omega
    | [a0], h => simp only [List.length_cons, List.length_nil] at h; omega
    | [a0, a1], h => simp only [List.length_cons, List.length_nil] at h; omega
    | [a0, a1, a2], h => simp only [List.length_cons, List.length_nil] at h; omega
    | [a0, a1, a2, a3], h => simp only [List.length_cons, List.length_nil] at h; omega
    | [a0, a1, a2, a3, a4], h => simp only [List.length_cons, List.length_nil] at h; omega
    | [a0, a1, a2, a3, a4, a5], h => simp only [List.length_cons, List.length_nil] at h; omega
theorem windows_cons (a0 a1 a2 : Int) (l : List Int) (n : Nat) : windows (a0 :: a1 :: a2 :: l) (n + 1) = (⟨a0, a1, a2⟩ : S72) :: windows l n := by
  unfold windows
  rw [List.range_succ_eq_map, List.map_cons, List.map_map]
  congr 1
theorem fW_len (ps : List S72) : (ps.flatMap fW).length = 3 * ps.length := by
  induction ps with
  | nil => rfl
  | cons y r ih => rw [List.flatMap_cons, List.length_append, ih, List.length_cons, show (fW y).length = 3 from rfl]; omega
theorem windows_of (ps : List S72) (r : List Int) : windows (ps.flatMap fW ++ r) ps.length = ps := by
  induction ps with
  | nil => rfl
  | cons y q ih =>
    rw [List.flatMap_cons, List.length_cons, List.append_assoc]
    show windows (y.f0 :: y.f1 :: y.f2 :: (q.flatMap fW ++ r)) (q.length + 1) = y :: q
    rw [windows_cons, ih]
theorem fW_drop (ps : List S72) (r : List Int) : (ps.flatMap fW ++ r).drop (3 * ps.length) = r := by
  rw [← fW_len, List.drop_left]
theorem windows_back : ∀ (n : Nat) (l : List Int), 3 * n ≤ l.length → (windows l n).flatMap fW = l.take (3 * n)
  | 0, l, _ => by simp [windows]
  | n + 1, l, h => by
    match l, h with
    | a0 :: a1 :: a2 :: r, h =>
      rw [windows_cons, List.flatMap_cons, windows_back n r (by simp only [List.length_cons] at h; omega), show 3 * (n + 1) = 3 * n + 3 by omega]
      rfl
    | [], h => simp only [List.length_cons, List.length_nil] at h; omega
    | [a0], h => simp only [List.length_cons, List.length_nil] at h; omega
    | [a0, a1], h => simp only [List.length_cons, List.length_nil] at h; omega
/-- The numbers behind the head. -/
theorem numsL_eq (c : Cfg) : numsL c = (c.ps.length : Int) :: (c.xs.length : Int) :: c.l0 :: (c.ws0.length : Int) :: c.l1 :: (c.ws1.length : Int) :: (c.ps.flatMap fP ++ (c.xs.flatMap fX ++ (c.ws0.flatMap fW ++ c.ws1.flatMap fW))) := by
  simp [numsL, headL, List.append_assoc]
theorem numsL_len (c : Cfg) : (numsL c).length = cntW c.ps.length c.xs.length c.ws0.length c.ws1.length := by
  rw [numsL_eq]
  simp only [List.length_cons, List.length_append, fP_len, fX_len, fW_len]
  unfold cntW
  omega
theorem hdN_app (l r : List Int) (j : Nat) (h : j < l.length) : hdN (l ++ r) j = hdN l j := by
  unfold hdN
  rw [List.getD_eq_getElem?_getD, List.getElem?_append_left h, ← List.getD_eq_getElem?_getD]
theorem getD_app (l r : List Int) (j : Nat) (h : j < l.length) : (l ++ r).getD j 0 = l.getD j 0 := by
  rw [List.getD_eq_getElem?_getD, List.getElem?_append_left h, ← List.getD_eq_getElem?_getD]
theorem hd_nums (c : Cfg) : hdN (numsL c) 0 = c.ps.length ∧ hdN (numsL c) 1 = c.xs.length ∧ hdN (numsL c) 3 = c.ws0.length ∧ hdN (numsL c) 5 = c.ws1.length ∧ (numsL c).getD 2 0 = c.l0 ∧ (numsL c).getD 4 0 = c.l1 := by
  rw [numsL_eq]
  refine ⟨rfl, rfl, rfl, rfl, rfl, rfl⟩
theorem parseC_nums (c : Cfg) : parseC (numsL c) = c := by
  obtain ⟨h0, h1, h3, h5, h2, h4⟩ := hd_nums c
  rw [parseC, h0, h1, h2, h3, h4, h5]
  have hd : (numsL c).drop 6 = c.ps.flatMap fP ++ (c.xs.flatMap fX ++ (c.ws0.flatMap fW ++ c.ws1.flatMap fW)) := by rw [numsL_eq]; rfl
  rw [hd, parts_of, fP_drop, chans_of]
  have e1 : (c.ps.flatMap fP ++ (c.xs.flatMap fX ++ (c.ws0.flatMap fW ++ c.ws1.flatMap fW))).drop (2 * c.ps.length + 7 * c.xs.length) = c.ws0.flatMap fW ++ c.ws1.flatMap fW := by
    rw [← List.drop_drop, fP_drop, fX_drop]
  have e2 : (c.ps.flatMap fP ++ (c.xs.flatMap fX ++ (c.ws0.flatMap fW ++ c.ws1.flatMap fW))).drop (2 * c.ps.length + 7 * c.xs.length + 3 * c.ws0.length) = c.ws1.flatMap fW := by
    rw [← List.drop_drop, e1, fW_drop]
  rw [e1, e2, windows_of]
  have e3 := windows_of c.ws1 []
  rw [List.append_nil] at e3
  rw [e3]
theorem few_iff (c : Cfg) : fewB c = true ↔ c.ps.length ≤ 64 ∧ c.xs.length ≤ 64 ∧ c.ws0.length ≤ 64 ∧ c.ws1.length ≤ 64 := by
  unfold fewB
  simp only [Bool.and_eq_true, Bool.not_eq_true', decide_eq_false_iff_not]
  omega
theorem parseE_nums (c : Cfg) (hf : fewB c = true) : parseE (numsL c) = 0 := by
  obtain ⟨h0, h1, h3, h5, _, _⟩ := hd_nums c
  obtain ⟨g0, g1, g2, g3⟩ := (few_iff c).1 hf
  rw [parseE, h0, h1, h3, h5, numsL_len, if_neg (by unfold cntW; omega), if_neg (by unfold bigW; rw [h0, h1, h3, h5]; omega), if_neg (by omega), if_neg (by omega)]
theorem parseR_nums (c : Cfg) (hf : fewB c = true) : parseR (numsL c) = c := by rw [parseR, if_pos (parseE_nums c hf), parseC_nums]
theorem parseE_more (c : Cfg) (m : Int) (hf : fewB c = true) : parseE (numsL c ++ [m]) = 9 := by
  obtain ⟨h0, h1, h3, h5, _, _⟩ := hd_nums c
  obtain ⟨g0, g1, g2, g3⟩ := (few_iff c).1 hf
  have hl : 6 ≤ (numsL c).length := by rw [numsL_len]; unfold cntW; omega
  have k0 := hdN_app (numsL c) [m] 0 (by omega)
  have k1 := hdN_app (numsL c) [m] 1 (by omega)
  have k3 := hdN_app (numsL c) [m] 3 (by omega)
  have k5 := hdN_app (numsL c) [m] 5 (by omega)
  rw [h0] at k0
  rw [h1] at k1
  rw [h3] at k3
  rw [h5] at k5
  have hll : (numsL c ++ [m]).length = cntW c.ps.length c.xs.length c.ws0.length c.ws1.length + 1 := by rw [List.length_append, numsL_len]; rfl
  rw [parseE, k0, k1, k3, k5, hll, if_neg (by unfold cntW; omega), if_neg (by unfold bigW; rw [k0, k1, k3, k5]; omega), if_neg (by omega), if_pos (by omega)]
theorem hdN_take (l : List Int) (k j : Nat) (h : j < k) : hdN (l.take k) j = hdN l j := by
  unfold hdN
  rw [List.getD_eq_getElem?_getD, List.getElem?_take, if_pos h, ← List.getD_eq_getElem?_getD]
theorem parseE_cut (c : Cfg) (k : Nat) (hk : k < (numsL c).length) (hf : fewB c = true) : parseE ((numsL c).take k) = 8 := by
  obtain ⟨h0, h1, h3, h5, _, _⟩ := hd_nums c
  obtain ⟨g0, g1, g2, g3⟩ := (few_iff c).1 hf
  have hl : ((numsL c).take k).length = k := by rw [List.length_take]; omega
  rw [numsL_len] at hk
  by_cases h6 : k < 6
  · rw [parseE, if_pos (by omega)]
  · have k0 := hdN_take (numsL c) k 0 (by omega)
    have k1 := hdN_take (numsL c) k 1 (by omega)
    have k3 := hdN_take (numsL c) k 3 (by omega)
    have k5 := hdN_take (numsL c) k 5 (by omega)
    rw [h0] at k0
    rw [h1] at k1
    rw [h3] at k3
    rw [h5] at k5
    rw [parseE, k0, k1, k3, k5, hl, if_neg (by omega), if_neg (by unfold bigW; rw [k0, k1, k3, k5]; omega), if_pos (by omega)]
theorem wd_fit {n : Int} (h : fitB n = true) : wd n = n := by
  have := of_decide_eq_true h
  unfold wd
  omega
theorem map_wd {l : List Int} (h : badL l = false) : l.map wd = l := by
  unfold badL at h
  rw [List.any_eq_false] at h
  conv => rhs; rw [← List.map_id l]
  apply List.map_congr_left
  intro n hn
  have := h n hn
  simp at this
  exact wd_fit this
theorem words_fit {l : List Int} (h : badL l = false) : Words l := fun n hn => by
  unfold badL at h
  rw [List.any_eq_false] at h
  have := h n hn
  simp at this
  exact of_decide_eq_true this
theorem fit_words {l : List Int} (h : Words l) : badL l = false := by
  unfold badL
  rw [List.any_eq_false]
  intro n hn
  have := h n hn
  simp [fitB]
  exact this
theorem fit_nat {n : Nat} (h : n ≤ 64) : fitB (n : Int) = true := decide_eq_true (by omega)
theorem bad_all {α : Type} (l : List α) (f : α → List Int) (ok : α → Bool) (h : ∀ y ∈ l, (f y).any (fun n => !fitB n) = !ok y) : (l.flatMap f).any (fun n => !fitB n) = !l.all ok := by
  induction l with
  | nil => rfl
  | cons y r ih =>
    rw [List.flatMap_cons, List.any_append, List.all_cons, h y (by simp), ih (fun z hz => h z (by simp [hz]))]
    cases ok y <;> simp
/-- The channels' last numbers are words anyway. -/
def Boots (c : Cfg) : Prop := ∀ y ∈ c.xs, 0 ≤ y.f6 ∧ y.f6 ≤ 4294967295
theorem bad_nums (c : Cfg) (hf : fewB c = true) (hb : Boots c) : badL (numsL c) = !allB c := by
  obtain ⟨g0, g1, g2, g3⟩ := (few_iff c).1 hf
  have h0 := bad_all c.ps fP okP (fun y _ => by simp [fP, okP])
  have h1 := bad_all c.xs fX okX (fun y hy => by
    have h6 : fitB y.f6 = true := decide_eq_true (hb y hy)
    simp [fX, okX, h6])
  have h2 := bad_all c.ws0 fW okW (fun y _ => by simp [fW, okW])
  have h3 := bad_all c.ws1 fW okW (fun y _ => by simp [fW, okW])
  rw [numsL_eq]
  unfold badL allB
  simp only [List.any_cons, List.any_append, h0, h1, h2, h3, fit_nat g0, fit_nat g1, fit_nat g2, fit_nat g3]
  cases c.ps.all okP <;> cases c.xs.all okX <;> cases c.ws0.all okW <;> cases c.ws1.all okW <;> cases fitB c.l0 <;> cases fitB c.l1 <;> rfl
theorem printL_told (c : Cfg) (hb : Boots c) (ht : toldB c = true) : printL c = numsL c ∧ Words (numsL c) ∧ fewB c = true := by
  unfold toldB at ht
  rw [Bool.and_eq_true] at ht
  have h := bad_nums c ht.1 hb
  rw [ht.2] at h
  rw [printL, if_pos ht.1, if_neg (by rw [h]; decide), map_wd h]
  exact ⟨rfl, words_fit h, ht.1⟩
theorem printL_not (c : Cfg) (hb : Boots c) (ht : toldB c = false) : printL c = [] := by
  unfold toldB at ht
  unfold printL
  cases hf : fewB c with
  | false => rfl
  | true =>
    rw [hf] at ht
    have h := bad_nums c hf hb
    rw [show allB c = false from ht] at h
    rw [if_pos rfl, if_pos (by rw [h]; rfl)]
theorem printL_len (c : Cfg) : (printL c).length ≤ 1000 := by
  unfold printL
  by_cases hf : fewB c = true
  · obtain ⟨g0, g1, g2, g3⟩ := (few_iff c).1 hf
    rw [if_pos hf]
    by_cases hb : badL (numsL c) = true
    · rw [if_pos hb]; exact Nat.zero_le _
    · rw [if_neg hb, List.length_map, numsL_len]; unfold cntW; omega
  · rw [if_neg hf]; exact Nat.zero_le _
theorem getD_words {ws : List Int} (hw : Words ws) (j : Nat) : 0 ≤ ws.getD j 0 ∧ ws.getD j 0 ≤ 4294967295 := by
  rw [List.getD_eq_getElem?_getD]
  cases h : ws[j]? with
  | none => simp
  | some x => exact hw x (List.mem_of_getElem? h)
theorem head_eq (ws : List Int) (h : 6 ≤ ws.length) : ws = ws.getD 0 0 :: ws.getD 1 0 :: ws.getD 2 0 :: ws.getD 3 0 :: ws.getD 4 0 :: ws.getD 5 0 :: ws.drop 6 := by
  match ws, h with
  | a :: b :: c :: d :: e :: f :: r, _ => rfl
/-- What is parsed has just these words. -/
theorem nums_parse (ws : List Int) (hw : Words ws) (he : parseE ws = 0) : numsL (parseC ws) = ws ∧ fewB (parseC ws) = true ∧ Boots (parseC ws) := by
  unfold parseE at he
  by_cases h6 : ws.length < 6
  · rw [if_pos h6] at he; exact absurd he (by decide)
  rw [if_neg h6] at he
  by_cases hb : bigW ws
  · rw [if_pos hb] at he; exact absurd he (by decide)
  rw [if_neg hb] at he
  by_cases h8 : ws.length < cntW (hdN ws 0) (hdN ws 1) (hdN ws 3) (hdN ws 5)
  · rw [if_pos h8] at he; exact absurd he (by decide)
  rw [if_neg h8] at he
  by_cases h9 : cntW (hdN ws 0) (hdN ws 1) (hdN ws 3) (hdN ws 5) < ws.length
  · rw [if_pos h9] at he; exact absurd he (by decide)
  have hlen : ws.length = cntW (hdN ws 0) (hdN ws 1) (hdN ws 3) (hdN ws 5) := by omega
  unfold bigW at hb
  have hnat : ∀ j, ((hdN ws j : Nat) : Int) = ws.getD j 0 := fun j => Int.toNat_of_nonneg (getD_words hw j).1
  have hdl : (ws.drop 6).length = 2 * hdN ws 0 + 7 * hdN ws 1 + 3 * hdN ws 3 + 3 * hdN ws 5 := by rw [List.length_drop, hlen]; unfold cntW; omega
  refine ⟨?_, ?_, ?_⟩
  · rw [numsL_eq]
    unfold parseC
    simp only [parts_length, chans_length, windows_length, hnat]
    rw [parts_back _ _ (by omega), chans_back _ _ (by rw [List.length_drop]; omega), windows_back _ _ (by rw [List.length_drop]; omega), windows_back _ _ (by rw [List.length_drop]; omega)]
    have e3 : ((ws.drop 6).drop (2 * hdN ws 0 + 7 * hdN ws 1 + 3 * hdN ws 3)).take (3 * hdN ws 5) = (ws.drop 6).drop (2 * hdN ws 0 + 7 * hdN ws 1 + 3 * hdN ws 3) := List.take_of_length_le (by rw [List.length_drop]; omega)
    rw [e3, ← List.drop_drop (i := 3 * hdN ws 3) (j := 2 * hdN ws 0 + 7 * hdN ws 1), List.take_append_drop, ← List.drop_drop (i := 7 * hdN ws 1) (j := 2 * hdN ws 0), List.take_append_drop, List.take_append_drop]
    exact (head_eq ws (by omega)).symm
  · rw [few_iff]
    unfold parseC
    simp only [parts_length, chans_length, windows_length]
    omega
  · intro y hy
    unfold parseC chans at hy
    simp only [List.mem_map] at hy
    obtain ⟨i, _, rfl⟩ := hy
    exact getD_words ((hw.drop 6).drop _) _
theorem printL_parse (ws : List Int) (hw : Words ws) (he : parseE ws = 0) : printL (parseC ws) = ws := by
  obtain ⟨h1, h2, _⟩ := nums_parse ws hw he
  have hb := fit_words hw
  rw [printL, if_pos h2, h1, if_neg (by rw [hb]; decide), map_wd hb]
end Go.Proofs.Ytbpmmabdjabfcaa.Table
