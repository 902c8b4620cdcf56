import Derived.Test.YtbpmmabdjabfcaaPTx15
import Derived.Test.YtbpmmabdjabfcaaPTx16
import Derived.Test.YtbpmmabdjabfcaaPTx17
/- Rows of structs: what slices.Equal answers, in plain words. Written by wip/tableeq.py. -/
namespace Go.Proofs.Ytbpmmabdjabfcaa.Table
open Go.RowKit Go.Proofs.YtbpmmabdjabfcaaW.PrintWords Go.Proofs.YtbpmmabdjabfcaaW.PrintLast Go.Proofs.YtbpmmabdjabfcaaW.PrintMore Go.Proofs.Ytbpmmabdjabfcaa.PT
theorem bed (x y : Int) : (x == y) = decide (x = y) := by by_cases h : x = y <;> simp [h]
instance : DecidableEq S64 := fun a b => decidable_of_iff (a.f0 = b.f0 ∧ a.f1 = b.f1) (by cases a; cases b; simp)
theorem ne64 (a b : S64) : (!((a.f0) == (b.f0)) || (!((a.f1) == (b.f1)))) = !decide (a = b) := by
  cases a
  cases b
  simp [Bool.decide_and, Bool.not_and, bed]
theorem api_Part_41_go (x0 x1 : List S64) (hl : x0.length = x1.length) (hn : x0.length ≤ 1099511627776) : ∀ (k i : Nat), i ≤ x0.length → x0.length - i < k → api_Part_41.l0 k x0 x1 (x0.length : Int) (i : Int) = some (decide (x0.drop i = x1.drop i))
  | 0, _, _, h => absurd h (by omega)
  | k + 1, i, hi, hk => by
    unfold api_Part_41.l0
    by_cases hlt : i < x0.length
    · rw [if_pos (by omega), if_pos (by omega), if_pos (by omega), if_pos (by omega), ne64]
      have h0 : x0.drop i = rd_T64 x0 (i : Int) :: x0.drop (i + 1) := by
        rw [rd_T64, Int.toNat_natCast, List.getD_eq_getElem?_getD, List.getElem?_eq_getElem hlt]
        exact List.drop_eq_getElem_cons hlt
      have h1 : x1.drop i = rd_T64 x1 (i : Int) :: x1.drop (i + 1) := by
        rw [rd_T64, Int.toNat_natCast, List.getD_eq_getElem?_getD, List.getElem?_eq_getElem (by omega)]
        exact List.drop_eq_getElem_cons (by omega)
      generalize rd_T64 x0 (i : Int) = a at *
      generalize rd_T64 x1 (i : Int) = b at *
      by_cases hab : a = b
      · rw [if_neg (by simp [hab]), show wrap64 ((i : Int) + 1) = ((i + 1 : Nat) : Int) by unfold wrap64; omega, api_Part_41_go x0 x1 hl hn k (i + 1) (by omega) (by omega)]
        congr 1
        rw [decide_eq_decide, h0, h1, hab]
        simp
      · rw [if_pos (by simp [hab])]
        congr 1
        rw [h0, h1]
        simp [hab]
    · rw [if_neg (by omega)]
      congr 1
      rw [List.drop_of_length_le (by omega), List.drop_of_length_le (by omega)]
      simp
theorem api_Part_41_eq (x0 x1 : List S64) (hn : x0.length ≤ 1099511627776) : api_Part_41.f (x0.length + 1) x0 x1 = some (decide (x0 = x1)) := by
  unfold api_Part_41.f
  by_cases h : x0.length = x1.length
  · rw [if_pos (by omega)]
    have := api_Part_41_go x0 x1 h hn (x0.length + 1) 0 (by omega) (by omega)
    simpa using this
  · rw [if_neg (by omega)]
    congr 1
    exact (decide_eq_false (fun e => h (by rw [e]))).symm
theorem same64 (A0 : Option Addr) (c0 : Nat) (l0 : List S64) (A1 : Option Addr) (c1 : Nat) (l1 : List S64) (w : World) (hr0 : Kd.C k64 w A0 l0.length l0) (hc0 : l0.length ≤ c0) (hr1 : Kd.C k64 w A1 l1.length l1) (hc1 : l1.length ≤ c1) (hn : l0.length ≤ 1099511627776) :
    Calls Try.prog 41 #[.slice A0 l0.length c0, .slice A1 l1.length c1] w fun e w' => e = .returned (.bool (decide (l0 = l1))) ∧ Drawn0 w w' :=
  api_Part_41.calls (l0.length + 1) A0 c0 l0 A1 c1 l1 _ w hr0 hc0 hr1 hc1 (api_Part_41_eq l0 l1 hn)
instance : DecidableEq S68 := fun a b => decidable_of_iff (a.f0 = b.f0 ∧ a.f1 = b.f1 ∧ a.f2 = b.f2 ∧ a.f3 = b.f3 ∧ a.f4 = b.f4 ∧ a.f5 = b.f5 ∧ a.f6 = b.f6) (by cases a; cases b; simp)
theorem ne68 (a b : S68) : (!((a.f0) == (b.f0)) || (!((a.f1) == (b.f1)) || (!((a.f2) == (b.f2)) || (!((a.f3) == (b.f3)) || (!((a.f4) == (b.f4)) || (!((a.f5) == (b.f5)) || (!((a.f6) == (b.f6))))))))) = !decide (a = b) := by
  cases a
  cases b
  simp [Bool.decide_and, Bool.not_and, bed]
theorem api_Chan_42_go (x0 x1 : List S68) (hl : x0.length = x1.length) (hn : x0.length ≤ 1099511627776) : ∀ (k i : Nat), i ≤ x0.length → x0.length - i < k → api_Chan_42.l0 k x0 x1 (x0.length : Int) (i : Int) = some (decide (x0.drop i = x1.drop i))
  | 0, _, _, h => absurd h (by omega)
  | k + 1, i, hi, hk => by
    unfold api_Chan_42.l0
    by_cases hlt : i < x0.length
    · rw [if_pos (by omega), if_pos (by omega), if_pos (by omega), if_pos (by omega), ne68]
      have h0 : x0.drop i = rd_T68 x0 (i : Int) :: x0.drop (i + 1) := by
        rw [rd_T68, Int.toNat_natCast, List.getD_eq_getElem?_getD, List.getElem?_eq_getElem hlt]
        exact List.drop_eq_getElem_cons hlt
      have h1 : x1.drop i = rd_T68 x1 (i : Int) :: x1.drop (i + 1) := by
        rw [rd_T68, Int.toNat_natCast, List.getD_eq_getElem?_getD, List.getElem?_eq_getElem (by omega)]
        exact List.drop_eq_getElem_cons (by omega)
      generalize rd_T68 x0 (i : Int) = a at *
      generalize rd_T68 x1 (i : Int) = b at *
      by_cases hab : a = b
      · rw [if_neg (by simp [hab]), show wrap64 ((i : Int) + 1) = ((i + 1 : Nat) : Int) by unfold wrap64; omega, api_Chan_42_go x0 x1 hl hn k (i + 1) (by omega) (by omega)]
        congr 1
        rw [decide_eq_decide, h0, h1, hab]
        simp
      · rw [if_pos (by simp [hab])]
        congr 1
        rw [h0, h1]
        simp [hab]
    · rw [if_neg (by omega)]
      congr 1
      rw [List.drop_of_length_le (by omega), List.drop_of_length_le (by omega)]
      simp
theorem api_Chan_42_eq (x0 x1 : List S68) (hn : x0.length ≤ 1099511627776) : api_Chan_42.f (x0.length + 1) x0 x1 = some (decide (x0 = x1)) := by
  unfold api_Chan_42.f
  by_cases h : x0.length = x1.length
  · rw [if_pos (by omega)]
    have := api_Chan_42_go x0 x1 h hn (x0.length + 1) 0 (by omega) (by omega)
    simpa using this
  · rw [if_neg (by omega)]
    congr 1
    exact (decide_eq_false (fun e => h (by rw [e]))).symm
theorem same68 (A0 : Option Addr) (c0 : Nat) (l0 : List S68) (A1 : Option Addr) (c1 : Nat) (l1 : List S68) (w : World) (hr0 : Kd.C k68 w A0 l0.length l0) (hc0 : l0.length ≤ c0) (hr1 : Kd.C k68 w A1 l1.length l1) (hc1 : l1.length ≤ c1) (hn : l0.length ≤ 1099511627776) :
    Calls Try.prog 42 #[.slice A0 l0.length c0, .slice A1 l1.length c1] w fun e w' => e = .returned (.bool (decide (l0 = l1))) ∧ Drawn0 w w' :=
  api_Chan_42.calls (l0.length + 1) A0 c0 l0 A1 c1 l1 _ w hr0 hc0 hr1 hc1 (api_Chan_42_eq l0 l1 hn)
instance : DecidableEq S72 := fun a b => decidable_of_iff (a.f0 = b.f0 ∧ a.f1 = b.f1 ∧ a.f2 = b.f2) (by cases a; cases b; simp)
theorem ne72 (a b : S72) : (!((a.f0) == (b.f0)) || (!((a.f1) == (b.f1)) || (!((a.f2) == (b.f2))))) = !decide (a = b) := by
  cases a
  cases b
  simp [Bool.decide_and, Bool.not_and, bed]
theorem api_Window_43_go (x0 x1 : List S72) (hl : x0.length = x1.length) (hn : x0.length ≤ 1099511627776) : ∀ (k i : Nat), i ≤ x0.length → x0.length - i < k → api_Window_43.l0 k x0 x1 (x0.length : Int) (i : Int) = some (decide (x0.drop i = x1.drop i))
  | 0, _, _, h => absurd h (by omega)
  | k + 1, i, hi, hk => by
    unfold api_Window_43.l0
    by_cases hlt : i < x0.length
    · rw [if_pos (by omega), if_pos (by omega), if_pos (by omega), if_pos (by omega), ne72]
      have h0 : x0.drop i = rd_T72 x0 (i : Int) :: x0.drop (i + 1) := by
        rw [rd_T72, Int.toNat_natCast, List.getD_eq_getElem?_getD, List.getElem?_eq_getElem hlt]
        exact List.drop_eq_getElem_cons hlt
      have h1 : x1.drop i = rd_T72 x1 (i : Int) :: x1.drop (i + 1) := by
        rw [rd_T72, Int.toNat_natCast, List.getD_eq_getElem?_getD, List.getElem?_eq_getElem (by omega)]
        exact List.drop_eq_getElem_cons (by omega)
      generalize rd_T72 x0 (i : Int) = a at *
      generalize rd_T72 x1 (i : Int) = b at *
      by_cases hab : a = b
      · rw [if_neg (by simp [hab]), show wrap64 ((i : Int) + 1) = ((i + 1 : Nat) : Int) by unfold wrap64; omega, api_Window_43_go x0 x1 hl hn k (i + 1) (by omega) (by omega)]
        congr 1
        rw [decide_eq_decide, h0, h1, hab]
        simp
      · rw [if_pos (by simp [hab])]
        congr 1
        rw [h0, h1]
        simp [hab]
    · rw [if_neg (by omega)]
      congr 1
      rw [List.drop_of_length_le (by omega), List.drop_of_length_le (by omega)]
      simp
theorem api_Window_43_eq (x0 x1 : List S72) (hn : x0.length ≤ 1099511627776) : api_Window_43.f (x0.length + 1) x0 x1 = some (decide (x0 = x1)) := by
  unfold api_Window_43.f
  by_cases h : x0.length = x1.length
  · rw [if_pos (by omega)]
    have := api_Window_43_go x0 x1 h hn (x0.length + 1) 0 (by omega) (by omega)
    simpa using this
  · rw [if_neg (by omega)]
    congr 1
    exact (decide_eq_false (fun e => h (by rw [e]))).symm
theorem same72 (A0 : Option Addr) (c0 : Nat) (l0 : List S72) (A1 : Option Addr) (c1 : Nat) (l1 : List S72) (w : World) (hr0 : Kd.C k72 w A0 l0.length l0) (hc0 : l0.length ≤ c0) (hr1 : Kd.C k72 w A1 l1.length l1) (hc1 : l1.length ≤ c1) (hn : l0.length ≤ 1099511627776) :
    Calls Try.prog 43 #[.slice A0 l0.length c0, .slice A1 l1.length c1] w fun e w' => e = .returned (.bool (decide (l0 = l1))) ∧ Drawn0 w w' :=
  api_Window_43.calls (l0.length + 1) A0 c0 l0 A1 c1 l1 _ w hr0 hc0 hr1 hc1 (api_Window_43_eq l0 l1 hn)
end Go.Proofs.Ytbpmmabdjabfcaa.Table
