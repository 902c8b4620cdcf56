import Derived.Test.YtbpmmabdjabfcaaScriptPrint
/- The plain law of jobs as words: what is printed is parsed as it was, what is parsed is printed as it was; beginnings, and a word more. No program in sight. -/
namespace Go.Proofs.Ytbpmmabdjabfcaa.Script
open Go.RowKit Go.Proofs.YtbpmmabdjabfcaaW.PrintWords Go.Proofs.YtbpmmabdjabfcaaW.PrintLast Go.Proofs.YtbpmmabdjabfcaaW.PrintMore Go.Proofs.Ytbpmmabdjabfcaa.Box Go.Proofs.Ytbpmmabdjabfcaa.PT Go.Proofs.Ytbpmmabdjabfcaa.Table
set_option linter.unusedSimpArgs false
set_option linter.unusedVariables false
/-- So many words are left, nothing lacked, no error. -/
def ok0 (ws : List Int) : St := ⟨ws, false, 0⟩
theorem stW_cons (x : Int) (r : List Int) : stW (ok0 (x :: r)) = ok0 r := rfl
theorem stW_nil : (stW (ok0 [])).e = 8 := rfl
theorem stW_bad2 {q : St} (h : q.e ≠ 0) : (stW q).e = q.e := by
  show (if nextS q.ws q.s = true then (if q.e = 0 then 8 else q.e) else q.e) = q.e
  rw [if_neg h]
  split <;> rfl
theorem stF_bad2 {q : St} (h : q.e ≠ 0) (c : Int) : (stF q c).e = q.e := by
  show (if q.e = 0 then c else q.e) = q.e
  rw [if_neg h]
theorem lsR_bad {α : Type} (one : St → α × St) (b : Int) {q : St} (h : q.e ≠ 0) : (lsR one b q).2.e = q.e := by
  unfold lsR
  have h1 : (if b < nextV q.ws then stF (stW q) 7 else stW q).e = q.e := by
    split
    · rw [stF_bad2 (by rw [stW_bad2 h]; exact h), stW_bad2 h]
    · exact stW_bad2 h
  rw [lsP_stop one _ (by rw [h1]; exact h)]
  exact h1
/-! ### what is printed is parsed as it was -/
theorem lsP_of {α : Type} (enc : α → List Int) (one : St → α × St) : ∀ (l : List α) (r : List Int), (∀ x ∈ l, ∀ r, one (ok0 (enc x ++ r)) = (x, ok0 r)) → lsP one l.length (ok0 (l.flatMap enc ++ r)) = (l, ok0 r)
  | [], r, _ => rfl
  | x :: l, r, h => by
    have h1 := h x (by simp) (l.flatMap enc ++ r)
    have h2 := lsP_of enc one l r (fun y hy => h y (by simp [hy]))
    rw [List.flatMap_cons, List.append_assoc, List.length_cons, lsP_step one _ rfl, h1]
    show (x :: (lsP one l.length (ok0 (l.flatMap enc ++ r))).1, (lsP one l.length (ok0 (l.flatMap enc ++ r))).2) = _
    rw [h2]
theorem lsR_of {α : Type} (enc : α → List Int) (one : St → α × St) (l : List α) (r : List Int) (b : Int) (hb : (l.length : Int) ≤ b) (h : ∀ x ∈ l, ∀ r, one (ok0 (enc x ++ r)) = (x, ok0 r)) : lsR one b (ok0 ((l.length : Int) :: (l.flatMap enc ++ r))) = (l, ok0 r) := by
  unfold lsR
  show lsP one ((l.length : Int)).toNat (if b < (l.length : Int) then _ else stW (ok0 ((l.length : Int) :: (l.flatMap enc ++ r)))) = _
  rw [if_neg (by omega), stW_cons, Int.toNat_natCast]
  exact lsP_of enc one l r h
theorem flat_one (l : List Int) : l.flatMap (fun x => [x]) = l := by
  induction l with
  | nil => rfl
  | cons x l ih => rw [List.flatMap_cons, ih]; rfl
theorem oneW_of (x : Int) (r : List Int) : oneW (ok0 ([x] ++ r)) = (x, ok0 r) := rfl
theorem words_of_list (l : List Int) (r : List Int) (b : Int) (hb : (l.length : Int) ≤ b) : lsR oneW b (ok0 ((l.length : Int) :: (l ++ r))) = (l, ok0 r) := by
  have h := lsR_of (fun x => [x]) oneW l r b hb (fun x _ r => oneW_of x r)
  rw [flat_one] at h
  exact h
theorem req_of (u : Req) (r : List Int) (ho : okQ u = true) (ha : 0 ≤ u.addr ∧ u.addr ≤ 18446744073709551615) : reqP (ok0 (fQ u ++ r)) = (u, ok0 r) := by
  unfold okQ at ho
  simp only [Bool.and_eq_true, decide_eq_true_iff] at ho
  have h := words_of_list u.data r 64 (by have := ho.2.2; omega)
  have e : fQ u ++ r = u.op :: u.port :: u.addr % 4294967296 :: u.addr / 4294967296 :: ((u.data.length : Int) :: (u.data ++ r)) := by unfold fQ; simp
  rw [e]
  show ((⟨u.op, u.port, u.addr / 4294967296 * 4294967296 + u.addr % 4294967296, (lsR oneW 64 (ok0 ((u.data.length : Int) :: (u.data ++ r)))).1⟩ : Req), (lsR oneW 64 (ok0 ((u.data.length : Int) :: (u.data ++ r)))).2) = (u, ok0 r)
  rw [h, show u.addr / 4294967296 * 4294967296 + u.addr % 4294967296 = u.addr by omega]
theorem list_of (l : List Req) (r : List Int) (ho : okL l = true) (ha : ∀ q ∈ l, 0 ≤ q.addr ∧ q.addr ≤ 18446744073709551615) : lqP (ok0 (fL l ++ r)) = (l, ok0 r) := by
  unfold okL at ho
  simp only [Bool.and_eq_true, decide_eq_true_iff] at ho
  exact lsR_of fQ reqP l r 64 (by have := ho.1; omega) (fun x hx r => req_of x r (List.all_eq_true.1 ho.2 x hx) (ha x hx))
theorem cfg_of (c : Cfg) (r : List Int) (hf : fewB c = true) : cfP (ok0 (((numsL c).length : Int) :: (numsL c ++ r))) = (c, ok0 r) := by
  have hl : 0 < (numsL c).length := by rw [numsL_len]; unfold cntW; omega
  have e1 : takeV (numsL c ++ r) ((numsL c).length : Int) = numsL c := by
    unfold takeV
    rw [if_neg (by omega), if_neg (by rw [List.length_append]; omega), Int.toNat_natCast, List.take_left]
  have e2 : takeR (numsL c ++ r) ((numsL c).length : Int) = r := by
    unfold takeR
    rw [if_neg (by omega), if_neg (by rw [List.length_append]; omega), Int.toNat_natCast, List.drop_left]
  have e3 : takeS (numsL c ++ r) ((numsL c).length : Int) false = false := by
    unfold takeS
    rw [if_neg (by omega), if_neg (by rw [List.length_append]; omega)]
  unfold cfP
  rw [stW_cons]
  show (if (0 : Int) = 0 then (if takeS (numsL c ++ r) ((numsL c).length : Int) false = true then _ else (parseR (takeV (numsL c ++ r) ((numsL c).length : Int)), (⟨takeR (numsL c ++ r) ((numsL c).length : Int), takeS (numsL c ++ r) ((numsL c).length : Int) false, if (0 : Int) = 0 then parseE (takeV (numsL c ++ r) ((numsL c).length : Int)) else 0⟩ : St))) else _) = _
  rw [if_pos rfl, e3, if_neg (by decide), e1, e2, parseE_nums c hf, parseR_nums c hf, if_pos rfl]
  rfl
/-- The words of a job that is told. -/
def jobL (j : Job) : List Int := ((numsL j.cfg).length : Int) :: (numsL j.cfg ++ restL j)
theorem told_parts {j : Job} (h : toldJ j = true) : toldB j.cfg = true ∧ toldP j = true ∧ j.streams.length ≤ 64 ∧ j.acts.length ≤ 4096 ∧ j.acts.all fitB = true ∧ j.streams.all okL = true := by
  unfold toldJ at h
  rw [Bool.and_eq_true] at h
  refine ⟨h.1, h.2, ?_⟩
  have h2 := h.2
  unfold toldP at h2
  simp only [Bool.and_eq_true, decide_eq_true_iff] at h2
  exact ⟨h2.1.1, h2.1.2, h2.2.1, h2.2.2⟩
theorem jobW_told {j : Job} (hg : GoodJ j) (h : toldJ j = true) : jobW j = jobL j ∧ fewB j.cfg = true := by
  obtain ⟨h1, h2, _⟩ := told_parts h
  obtain ⟨e1, _, e3⟩ := printL_told j.cfg hg.boots h1
  have hl : (numsL j.cfg).length ≠ 0 := by rw [numsL_len]; unfold cntW; omega
  refine ⟨?_, e3⟩
  unfold jobW jobL
  rw [e1, if_neg hl, if_pos h2]
theorem jobW_not {j : Job} (hg : GoodJ j) (h : toldJ j = false) : jobW j = [] := by
  unfold toldJ at h
  unfold jobW
  cases ht : toldB j.cfg with
  | false => rw [printL_not j.cfg hg.boots ht]; rfl
  | true =>
    rw [ht] at h
    have h2 : toldP j = false := h
    rw [h2]
    split <;> rfl
theorem streams_of {j : Job} (hg : GoodJ j) (h : toldJ j = true) (r : List Int) : lsR lqP 64 (ok0 ((j.streams.length : Int) :: (j.streams.flatMap fL ++ r))) = (j.streams, ok0 r) := by
  obtain ⟨_, _, h3, _, _, h6⟩ := told_parts h
  exact lsR_of fL lqP j.streams r 64 (by omega) (fun l hl r => list_of l r (List.all_eq_true.1 h6 l hl) (hg.addr l hl))
theorem job_steps {j : Job} (hg : GoodJ j) (h : toldJ j = true) (r : List Int) : (cfP ⟨jobL j ++ r, false, 0⟩).1 = j.cfg ∧ (lsR lqP 64 (q1P (jobL j ++ r))).1 = j.streams ∧ (lsR oneW 4096 (q2P (jobL j ++ r))).1 = j.acts ∧ q3P (jobL j ++ r) = ok0 r := by
  have hf := (jobW_told hg h).2
  obtain ⟨_, _, _, h4, _, _⟩ := told_parts h
  have e : jobL j ++ r = ((numsL j.cfg).length : Int) :: (numsL j.cfg ++ ((j.streams.length : Int) :: (j.streams.flatMap fL ++ ((j.acts.length : Int) :: (j.acts ++ r))))) := by
    unfold jobL restL
    simp
  have c1 : cfP ⟨jobL j ++ r, false, 0⟩ = (j.cfg, ok0 ((j.streams.length : Int) :: (j.streams.flatMap fL ++ ((j.acts.length : Int) :: (j.acts ++ r))))) := by
    rw [e]
    exact cfg_of j.cfg _ hf
  have c2 : q1P (jobL j ++ r) = ok0 ((j.streams.length : Int) :: (j.streams.flatMap fL ++ ((j.acts.length : Int) :: (j.acts ++ r)))) := by
    unfold q1P
    rw [c1]
  have c3 := streams_of hg h ((j.acts.length : Int) :: (j.acts ++ r))
  have c4 : q2P (jobL j ++ r) = ok0 ((j.acts.length : Int) :: (j.acts ++ r)) := by
    unfold q2P
    rw [c2, c3]
  have c5 := words_of_list j.acts r 4096 (by omega)
  have c6 : q3P (jobL j ++ r) = ok0 r := by
    unfold q3P
    rw [c4, c5]
  exact ⟨by rw [c1], by rw [c2, c3], by rw [c4, c5], c6⟩
theorem job_back {j : Job} (hg : GoodJ j) (h : toldJ j = true) : jobE (jobL j) = 0 ∧ jobJ (jobL j) = j := by
  have hs := job_steps hg h []
  rw [List.append_nil] at hs
  obtain ⟨s1, s2, s3, s4⟩ := hs
  have hE : jobE (jobL j) = 0 := by
    unfold jobE q4P
    rw [s4, if_neg (by decide)]
    rfl
  refine ⟨hE, ?_⟩
  unfold jobJ
  rw [if_pos hE]
  unfold jobR
  rw [s1, s2, s3]
theorem job_more {j : Job} (hg : GoodJ j) (h : toldJ j = true) (m : Int) : jobE (jobL j ++ [m]) = 9 := by
  obtain ⟨_, _, _, s4⟩ := job_steps hg h [m]
  unfold jobE q4P
  rw [s4, if_pos ⟨rfl, rfl⟩]
  rfl
/-! ### beginnings -/
/-- A reader that is given less than it wants tells so. -/
def CutOne {α : Type} (enc : α → List Int) (one : St → α × St) (x : α) : Prop := ∀ k, k < (enc x).length → (one (ok0 ((enc x).take k))).2.e = 8
theorem lsP_cut {α : Type} (enc : α → List Int) (one : St → α × St) : ∀ (l : List α) (k : Nat), k < (l.flatMap enc).length → (∀ x ∈ l, ∀ r, one (ok0 (enc x ++ r)) = (x, ok0 r)) → (∀ x ∈ l, CutOne enc one x) → (lsP one l.length (ok0 ((l.flatMap enc).take k))).2.e = 8
  | [], k, hk, _, _ => absurd hk (Nat.not_lt_zero _)
  | x :: l, k, hk, h, hc => by
    rw [List.flatMap_cons] at hk ⊢
    rw [List.length_cons, lsP_step one _ rfl]
    show (lsP one l.length (one (ok0 ((enc x ++ l.flatMap enc).take k))).2).2.e = 8
    by_cases hlt : k < (enc x).length
    · rw [List.take_append_of_le_length (Nat.le_of_lt hlt)]
      have h8 := hc x (by simp) k hlt
      rw [lsP_stop one _ (by rw [h8]; decide)]
      exact h8
    · have e : (enc x ++ l.flatMap enc).take k = enc x ++ (l.flatMap enc).take (k - (enc x).length) := by
        rw [List.take_append, List.take_of_length_le (by omega)]
      rw [e, h x (by simp) _]
      rw [List.length_append] at hk
      exact lsP_cut enc one l (k - (enc x).length) (by omega) (fun y hy => h y (by simp [hy])) (fun y hy => hc y (by simp [hy]))
theorem lsR_cut {α : Type} (enc : α → List Int) (one : St → α × St) (l : List α) (b : Int) (hb0 : 0 ≤ b) (hb : (l.length : Int) ≤ b) (h : ∀ x ∈ l, ∀ r, one (ok0 (enc x ++ r)) = (x, ok0 r)) (hc : ∀ x ∈ l, CutOne enc one x) (k : Nat) (hk : k < ((l.length : Int) :: l.flatMap enc).length) : (lsR one b (ok0 (((l.length : Int) :: l.flatMap enc).take k))).2.e = 8 := by
  unfold lsR
  cases k with
  | zero =>
    show (lsP one (0 : Int).toNat (if b < 0 then stF (stW (ok0 [])) 7 else stW (ok0 []))).2.e = 8
    rw [if_neg (by omega)]
    rfl
  | succ k =>
    rw [List.take_succ_cons]
    show (lsP one ((l.length : Int)).toNat (if b < (l.length : Int) then _ else stW (ok0 ((l.length : Int) :: (l.flatMap enc).take k)))).2.e = 8
    rw [if_neg (by omega), stW_cons, Int.toNat_natCast]
    exact lsP_cut enc one l k (by simpa using hk) h hc
theorem oneW_cut (x : Int) : CutOne (fun x => [x]) oneW x := fun k hk => by
  have hk0 : k = 0 := by simpa using hk
  subst hk0
  rfl
theorem words_cut (l : List Int) (b : Int) (hb0 : 0 ≤ b) (hb : (l.length : Int) ≤ b) (k : Nat) (hk : k < ((l.length : Int) :: l).length) : (lsR oneW b (ok0 (((l.length : Int) :: l).take k))).2.e = 8 := by
  have h := lsR_cut (fun x => [x]) oneW l b hb0 hb (fun x _ r => oneW_of x r) (fun x _ => oneW_cut x) k
  rw [flat_one] at h
  exact h hk
theorem req_cut (u : Req) (ho : okQ u = true) : CutOne fQ reqP u := by
  unfold okQ at ho
  simp only [Bool.and_eq_true, decide_eq_true_iff] at ho
  intro k hk
  unfold fQ at hk ⊢
  have bad : ∀ q : St, q.e = 8 → (lsR oneW 64 q).2.e = 8 := fun q hq => by rw [lsR_bad oneW 64 (by rw [hq]; decide), hq]
  match k, hk with
  | 0, _ => exact bad _ rfl
  | 1, _ => exact bad _ rfl
  | 2, _ => exact bad _ rfl
  | 3, _ => exact bad _ rfl
  | k + 4, hk =>
    show (lsR oneW 64 (ok0 (((u.data.length : Int) :: u.data).take k))).2.e = 8
    exact words_cut u.data 64 (by decide) (by have := ho.2.2; omega) k (by simp only [List.length_cons] at hk ⊢; omega)
theorem list_cut (l : List Req) (ho : okL l = true) (ha : ∀ q ∈ l, 0 ≤ q.addr ∧ q.addr ≤ 18446744073709551615) : CutOne fL lqP l := by
  unfold okL at ho
  simp only [Bool.and_eq_true, decide_eq_true_iff] at ho
  intro k hk
  exact lsR_cut fQ reqP l 64 (by decide) (by have := ho.1; omega) (fun x hx r => req_of x r (List.all_eq_true.1 ho.2 x hx) (ha x hx)) (fun x hx => req_cut x (List.all_eq_true.1 ho.2 x hx)) k hk
theorem jobE_bad {ws : List Int} (h : (q1P ws).e = 8 ∨ (q2P ws).e = 8 ∨ (q3P ws).e = 8) : jobE ws = 8 := by
  have h3 : (q3P ws).e = 8 := by
    rcases h with h | h | h
    · have h2 : (q2P ws).e = 8 := by
        unfold q2P
        rw [lsR_bad lqP 64 (by rw [h]; decide), h]
      unfold q3P
      rw [lsR_bad oneW 4096 (by rw [h2]; decide), h2]
    · unfold q3P
      rw [lsR_bad oneW 4096 (by rw [h]; decide), h]
    · exact h
  unfold jobE q4P
  rw [if_neg (fun e => by rw [h3] at e; exact absurd e.1 (by decide))]
  exact h3
theorem job_cut {j : Job} (hg : GoodJ j) (h : toldJ j = true) (k : Nat) (hk : k < (jobL j).length) : jobE ((jobL j).take k) = 8 := by
  have hf := (jobW_told hg h).2
  obtain ⟨_, _, h3, h4, _, h6⟩ := told_parts h
  have e : jobL j = (((numsL j.cfg).length : Int) :: numsL j.cfg) ++ (((j.streams.length : Int) :: j.streams.flatMap fL) ++ ((j.acts.length : Int) :: j.acts)) := by
    unfold jobL restL
    simp
  rw [e] at hk ⊢
  generalize hS : ((j.streams.length : Int) :: j.streams.flatMap fL) = S at *
  generalize hA : ((j.acts.length : Int) :: j.acts) = A at *
  generalize hH : (((numsL j.cfg).length : Int) :: numsL j.cfg) = H at *
  rw [List.length_append, List.length_append] at hk
  have cH : ∀ r, cfP (ok0 (H ++ r)) = (j.cfg, ok0 r) := fun r => by rw [← hH]; exact cfg_of j.cfg r hf
  have cS : ∀ r, lsR lqP 64 (ok0 (S ++ r)) = (j.streams, ok0 r) := fun r => by rw [← hS]; exact streams_of hg h r
  by_cases h1 : k < H.length
  · rw [List.take_append_of_le_length (Nat.le_of_lt h1)]
    refine jobE_bad (Or.inl ?_)
    show (cfP (ok0 (H.take k))).2.e = 8
    rw [← hH] at h1 ⊢
    cases k with
    | zero => rfl
    | succ k =>
      rw [List.take_succ_cons]
      have hk2 : k < (numsL j.cfg).length := by simpa using h1
      have hl : ((numsL j.cfg).take k).length = k := by rw [List.length_take]; omega
      have e3 : takeS ((numsL j.cfg).take k) ((numsL j.cfg).length : Int) false = true := by
        unfold takeS
        rw [if_neg (by omega), if_pos (by rw [hl]; omega)]
      unfold cfP
      rw [stW_cons]
      show (if (0 : Int) = 0 then (if takeS ((numsL j.cfg).take k) ((numsL j.cfg).length : Int) false = true then (zcfg, stF (stT (ok0 ((numsL j.cfg).take k)) ((numsL j.cfg).length : Int)) 8) else _) else _ : Cfg × St).2.e = 8
      rw [if_pos rfl, if_pos e3]
      rfl
  · have e1 : (H ++ (S ++ A)).take k = H ++ (S ++ A).take (k - H.length) := by rw [List.take_append, List.take_of_length_le (by omega)]
    rw [e1]
    have hq1 : q1P (H ++ (S ++ A).take (k - H.length)) = ok0 ((S ++ A).take (k - H.length)) := by
      show (cfP (ok0 (H ++ (S ++ A).take (k - H.length)))).2 = _
      rw [cH]
    by_cases h2 : k - H.length < S.length
    · refine jobE_bad (Or.inr (Or.inl ?_))
      unfold q2P
      rw [hq1, List.take_append_of_le_length (Nat.le_of_lt h2), ← hS]
      exact lsR_cut fL lqP j.streams 64 (by decide) (by omega) (fun l hl r => list_of l r (List.all_eq_true.1 h6 l hl) (hg.addr l hl)) (fun l hl => list_cut l (List.all_eq_true.1 h6 l hl) (hg.addr l hl)) _ (by rw [hS]; exact h2)
    · have e2 : (S ++ A).take (k - H.length) = S ++ A.take (k - H.length - S.length) := by rw [List.take_append, List.take_of_length_le (by omega)]
      have hq2 : q2P (H ++ (S ++ A).take (k - H.length)) = ok0 (A.take (k - H.length - S.length)) := by
        unfold q2P
        rw [hq1, e2, cS]
      refine jobE_bad (Or.inr (Or.inr ?_))
      unfold q3P
      rw [hq2, ← hA]
      exact words_cut j.acts 4096 (by decide) (by omega) _ (by rw [hA]; omega)
/-! ### what is parsed is printed as it was -/
/-- What a reader tells, if there was no error: the words were those of what it tells, and it is such. -/
def Inv {α : Type} (enc : α → List Int) (ok : α → Prop) (one : St → α × St) : Prop := ∀ q, Words q.ws → (one q).2.e = 0 → q.e = 0 ∧ q.ws = enc (one q).1 ++ (one q).2.ws ∧ ok (one q).1
theorem stW_inv {q : St} (h : (stW q).e = 0) : q.e = 0 ∧ q.ws = nextV q.ws :: (stW q).ws := by
  have h' : (if nextS q.ws q.s = true then (if q.e = 0 then 8 else q.e) else q.e) = 0 := h
  cases hws : q.ws with
  | nil =>
    rw [hws] at h'
    rw [show nextS [] q.s = true from rfl, if_pos rfl] at h'
    by_cases h0 : q.e = 0
    · rw [if_pos h0] at h'
      exact absurd h' (by decide)
    · rw [if_neg h0] at h'
      exact absurd h' h0
  | cons x r =>
    have h0 : q.e = 0 := by
      by_cases h0 : q.e = 0
      · exact h0
      · rw [if_neg h0] at h'
        split at h' <;> exact h'
    refine ⟨h0, ?_⟩
    show x :: r = x :: q.ws.tail
    rw [hws]
    rfl
theorem lsP_inv {α : Type} {enc : α → List Int} {ok : α → Prop} {one : St → α × St} (hw : ∀ q, Words q.ws → Words (one q).2.ws) (ho : Inv enc ok one) : ∀ (n : Nat) (q : St), Words q.ws → (lsP one n q).2.e = 0 → q.e = 0 ∧ (lsP one n q).1.length = n ∧ q.ws = (lsP one n q).1.flatMap enc ++ (lsP one n q).2.ws ∧ ∀ x ∈ (lsP one n q).1, ok x
  | 0, q, _, h => ⟨h, rfl, rfl, fun x hx => absurd hx (by show ¬ x ∈ []; simp)⟩
  | n + 1, q, hq, h => by
    by_cases h0 : q.e = 0
    · rw [lsP_step one n h0] at h ⊢
      obtain ⟨a1, a2, a3, a4⟩ := lsP_inv hw ho n (one q).2 (hw q hq) h
      obtain ⟨b1, b2, b3⟩ := ho q hq a1
      refine ⟨h0, by show ((one q).1 :: (lsP one n (one q).2).1).length = n + 1; rw [List.length_cons, a2], ?_, ?_⟩
      · show q.ws = ((one q).1 :: (lsP one n (one q).2).1).flatMap enc ++ (lsP one n (one q).2).2.ws
        rw [List.flatMap_cons, List.append_assoc, ← a3]
        exact b2
      · intro x hx
        rcases List.mem_cons.1 hx with rfl | hx
        · exact b3
        · exact a4 x hx
    · rw [lsP_stop one _ h0] at h
      exact absurd h h0
theorem lsR_inv {α : Type} {enc : α → List Int} {ok : α → Prop} {one : St → α × St} (hw : ∀ q, Words q.ws → Words (one q).2.ws) (ho : Inv enc ok one) (b : Int) (q : St) (hq : Words q.ws) (h : (lsR one b q).2.e = 0) : q.e = 0 ∧ q.ws = ((lsR one b q).1.length : Int) :: ((lsR one b q).1.flatMap enc ++ (lsR one b q).2.ws) ∧ ((lsR one b q).1.length : Int) ≤ b ∧ ∀ x ∈ (lsR one b q).1, ok x := by
  unfold lsR at h ⊢
  by_cases hb : b < nextV q.ws
  · rw [if_pos hb] at h
    have hbad : (stF (stW q) 7).e ≠ 0 := by
      show (if (stW q).e = 0 then (7 : Int) else (stW q).e) ≠ 0
      split
      · decide
      · rename_i h; exact h
    rw [lsP_stop one _ hbad] at h
    exact absurd h hbad
  · rw [if_neg hb] at h ⊢
    obtain ⟨a1, a2, a3, a4⟩ := lsP_inv hw ho _ _ (Words.stW hq) h
    obtain ⟨b1, b2⟩ := stW_inv a1
    have hv := hq.head
    have hn : ((lsP one (nextV q.ws).toNat (stW q)).1.length : Int) = nextV q.ws := by rw [a2]; omega
    refine ⟨b1, ?_, by rw [hn]; omega, a4⟩
    rw [hn, ← a3]
    exact b2
theorem oneW_inv : Inv (fun x => [x]) (fun x => 0 ≤ x ∧ x ≤ 4294967295) oneW := fun q hq h => by
  obtain ⟨a, b⟩ := stW_inv (q := q) h
  exact ⟨a, b, hq.head⟩
theorem req_inv : Inv fQ (fun u => okQ u = true ∧ (0 ≤ u.addr ∧ u.addr ≤ 18446744073709551615) ∧ Words u.data) reqP := fun q hq h => by
  have hh : (lsR oneW 64 (stW (stW (stW (stW q))))).2.e = 0 := h
  have w1 := Words.stW hq
  have w2 := Words.stW w1
  have w3 := Words.stW w2
  have w4 := Words.stW w3
  obtain ⟨a1, a2, a3, a4⟩ := lsR_inv (fun _ => oneW_words) oneW_inv 64 _ w4 hh
  obtain ⟨b1, b2⟩ := stW_inv a1
  obtain ⟨c1, c2⟩ := stW_inv b1
  obtain ⟨d1, d2⟩ := stW_inv c1
  obtain ⟨e1, e2⟩ := stW_inv d1
  have v0 := hq.head
  have v1 := w1.head
  have v2 := w2.head
  have v3 := w3.head
  rw [flat_one] at a2
  have hu : (reqP q).1 = ⟨nextV q.ws, nextV (stW q).ws, nextV (stW (stW (stW q))).ws * 4294967296 + nextV (stW (stW q)).ws, (lsR oneW 64 (stW (stW (stW (stW q))))).1⟩ := rfl
  have hs : (reqP q).2 = (lsR oneW 64 (stW (stW (stW (stW q))))).2 := rfl
  refine ⟨e1, ?_, ?_⟩
  · rw [hu, hs]
    unfold fQ
    show q.ws = nextV q.ws :: nextV (stW q).ws :: (nextV (stW (stW (stW q))).ws * 4294967296 + nextV (stW (stW q)).ws) % 4294967296 :: (nextV (stW (stW (stW q))).ws * 4294967296 + nextV (stW (stW q)).ws) / 4294967296 :: (((lsR oneW 64 (stW (stW (stW (stW q))))).1.length : Int) :: ((lsR oneW 64 (stW (stW (stW (stW q))))).1 ++ (lsR oneW 64 (stW (stW (stW (stW q))))).2.ws))
    rw [← a2, show (nextV (stW (stW (stW q))).ws * 4294967296 + nextV (stW (stW q)).ws) % 4294967296 = nextV (stW (stW q)).ws by omega, show (nextV (stW (stW (stW q))).ws * 4294967296 + nextV (stW (stW q)).ws) / 4294967296 = nextV (stW (stW (stW q))).ws by omega, ← b2, ← c2, ← d2]
    exact e2
  · rw [hu]
    refine ⟨?_, ⟨?_, ?_⟩, fun x hx => a4 x hx⟩
    · unfold okQ
      simp only [Bool.and_eq_true, decide_eq_true_iff]
      exact ⟨decide_eq_true v0, decide_eq_true v1, by omega⟩
    · show 0 ≤ nextV (stW (stW (stW q))).ws * 4294967296 + nextV (stW (stW q)).ws
      omega
    · show nextV (stW (stW (stW q))).ws * 4294967296 + nextV (stW (stW q)).ws ≤ 18446744073709551615
      omega
theorem list_inv : Inv fL (fun l => okL l = true ∧ (∀ u ∈ l, 0 ≤ u.addr ∧ u.addr ≤ 18446744073709551615) ∧ ∀ u ∈ l, Words u.data) lqP := fun q hq h => by
  obtain ⟨a1, a2, a3, a4⟩ := lsR_inv (fun _ => reqP_words) req_inv 64 q hq h
  refine ⟨a1, a2, ?_, fun u hu => (a4 u hu).2.1, fun u hu => (a4 u hu).2.2⟩
  unfold okL
  rw [Bool.and_eq_true]
  exact ⟨decide_eq_true (by show (lsR reqP 64 q).1.length ≤ 64; omega), List.all_eq_true.2 (fun u hu => (a4 u hu).1)⟩
theorem cfg_inv (ws : List Int) (hq : Words ws) (h : (cfP ⟨ws, false, 0⟩).2.e = 0) : ws = ((numsL (cfP ⟨ws, false, 0⟩).1).length : Int) :: (numsL (cfP ⟨ws, false, 0⟩).1 ++ (cfP ⟨ws, false, 0⟩).2.ws) ∧ fewB (cfP ⟨ws, false, 0⟩).1 = true ∧ Boots (cfP ⟨ws, false, 0⟩).1 ∧ printL (cfP ⟨ws, false, 0⟩).1 = numsL (cfP ⟨ws, false, 0⟩).1 := by
  unfold cfP at h ⊢
  by_cases h0 : (stW ⟨ws, false, 0⟩).e = 0
  · rw [if_pos h0] at h ⊢
    obtain ⟨_, hws⟩ := stW_inv h0
    have hv := hq.head
    have hwr := Words.stW (q := ⟨ws, false, 0⟩) hq
    by_cases hs : (stT (stW ⟨ws, false, 0⟩) (nextV ws)).s = true
    · rw [if_pos hs] at h
      have hbad : (stF (stT (stW ⟨ws, false, 0⟩) (nextV ws)) 8).e ≠ 0 := by
        show (if (stW ⟨ws, false, 0⟩).e = 0 then (8 : Int) else (stW ⟨ws, false, 0⟩).e) ≠ 0
        rw [if_pos h0]
        decide
      exact absurd h hbad
    · rw [if_neg hs] at h ⊢
      have hp : parseE (takeV (stW ⟨ws, false, 0⟩).ws (nextV ws)) = 0 := by
        have h' : (if (stW ⟨ws, false, 0⟩).e = 0 then parseE (takeV (stW ⟨ws, false, 0⟩).ws (nextV ws)) else (stW ⟨ws, false, 0⟩).e) = 0 := h
        rwa [if_pos h0] at h'
      have hn0 : ¬ nextV ws ≤ 0 := fun e => by
        unfold takeV at hp
        rw [if_pos e] at hp
        exact absurd hp (by decide)
      have hn1 : ¬ nextV ws > ((stW ⟨ws, false, 0⟩).ws.length : Int) := fun e => by
        unfold takeV at hp
        rw [if_neg hn0, if_pos e] at hp
        exact absurd hp (by decide)
      have e1 : takeV (stW ⟨ws, false, 0⟩).ws (nextV ws) = (stW ⟨ws, false, 0⟩).ws.take (nextV ws).toNat := by
        unfold takeV
        rw [if_neg hn0, if_neg hn1]
      have e2 : takeR (stW ⟨ws, false, 0⟩).ws (nextV ws) = (stW ⟨ws, false, 0⟩).ws.drop (nextV ws).toNat := by
        unfold takeR
        rw [if_neg hn0, if_neg hn1]
      rw [e1] at hp
      have hwt : Words ((stW ⟨ws, false, 0⟩).ws.take (nextV ws).toNat) := fun x hx => hwr x (List.mem_of_mem_take hx)
      have hR : parseR ((stW ⟨ws, false, 0⟩).ws.take (nextV ws).toNat) = parseC ((stW ⟨ws, false, 0⟩).ws.take (nextV ws).toNat) := by rw [parseR, if_pos hp]
      obtain ⟨n1, n2, n3⟩ := nums_parse _ hwt hp
      have n4 := printL_parse _ hwt hp
      have hlen : ((stW ⟨ws, false, 0⟩).ws.take (nextV ws).toNat).length = (nextV ws).toNat := by rw [List.length_take]; omega
      show ws = ((numsL (parseR (takeV (stW ⟨ws, false, 0⟩).ws (nextV ws)))).length : Int) :: (numsL (parseR (takeV (stW ⟨ws, false, 0⟩).ws (nextV ws))) ++ takeR (stW ⟨ws, false, 0⟩).ws (nextV ws)) ∧ fewB (parseR (takeV (stW ⟨ws, false, 0⟩).ws (nextV ws))) = true ∧ Boots (parseR (takeV (stW ⟨ws, false, 0⟩).ws (nextV ws))) ∧ printL (parseR (takeV (stW ⟨ws, false, 0⟩).ws (nextV ws))) = numsL (parseR (takeV (stW ⟨ws, false, 0⟩).ws (nextV ws)))
      rw [e1, e2, hR, n1, hlen, List.take_append_drop]
      refine ⟨?_, n2, n3, n4⟩
      rw [show ((nextV ws).toNat : Int) = nextV ws by omega]
      exact hws
  · rw [if_neg h0] at h
    exact absurd h h0
/-- What is parsed: it is good, and its words are those that were read. -/
theorem job_one (ws : List Int) (hq : Words ws) (h : jobE ws = 0) : GoodJ (jobJ ws) ∧ jobW (jobJ ws) = ws ∧ toldP (jobJ ws) = true := by
  have hJ : jobJ ws = jobR ws := by unfold jobJ; rw [if_pos h]
  have h4 : (q3P ws).e = 0 ∧ doneS (q3P ws) = true := by
    unfold jobE q4P at h
    by_cases hc : (q3P ws).e = 0 ∧ doneS (q3P ws) = false
    · rw [if_pos hc] at h
      exact absurd h (by show ¬ (if (q3P ws).e = 0 then (9 : Int) else (q3P ws).e) = 0; rw [if_pos hc.1]; decide)
    · rw [if_neg hc] at h
      refine ⟨h, ?_⟩
      cases hd : doneS (q3P ws) with
      | true => rfl
      | false => exact absurd ⟨h, hd⟩ hc
  have w1 : Words (q1P ws).ws := cfP_words hq
  have w2 : Words (q2P ws).ws := lsR_words (fun _ => lqP_words) 64 _ w1
  obtain ⟨a1, a2, a3, a4⟩ := lsR_inv (fun _ => oneW_words) oneW_inv 4096 (q2P ws) w2 h4.1
  obtain ⟨b1, b2, b3, b4⟩ := lsR_inv (fun _ => lqP_words) list_inv 64 (q1P ws) w1 a1
  obtain ⟨c1, c2, c3, c4⟩ := cfg_inv ws hq b1
  have hend : (q3P ws).ws = [] := by
    have h5 := h4.2
    unfold doneS at h5
    rw [Bool.and_eq_true, decide_eq_true_iff] at h5
    exact List.eq_nil_of_length_eq_zero h5.1
  have hend' : (lsR oneW 4096 (q2P ws)).2.ws = [] := hend
  rw [flat_one, hend', List.append_nil] at a2
  have hcfg : (jobR ws).cfg = (cfP ⟨ws, false, 0⟩).1 := rfl
  have hst : (jobR ws).streams = (lsR lqP 64 (q1P ws)).1 := rfl
  have hac : (jobR ws).acts = (lsR oneW 4096 (q2P ws)).1 := rfl
  have ht : toldP (jobR ws) = true := by
    unfold toldP
    simp only [Bool.and_eq_true, decide_eq_true_iff]
    rw [hst, hac]
    exact ⟨⟨by omega, by omega⟩, List.all_eq_true.2 (fun x hx => decide_eq_true (a4 x hx)), List.all_eq_true.2 (fun l hl => (b4 l hl).1)⟩
  rw [hJ]
  refine ⟨⟨by rw [hcfg]; exact c3, by rw [hst]; exact fun l hl => (b4 l hl).2.1, by rw [hst]; exact fun l hl => (b4 l hl).2.2⟩, ?_, ht⟩
  have hl : (numsL (cfP ⟨ws, false, 0⟩).1).length ≠ 0 := by rw [numsL_len]; unfold cntW; omega
  unfold jobW
  rw [hcfg, c4, if_neg hl, if_pos ht]
  unfold restL
  rw [hst, hac, ← a2]
  have b2' : (cfP ⟨ws, false, 0⟩).2.ws = ((lsR lqP 64 (q1P ws)).1.length : Int) :: ((lsR lqP 64 (q1P ws)).1.flatMap fL ++ (q2P ws).ws) := b2
  rw [← b2']
  exact c1.symm
end Go.Proofs.Ytbpmmabdjabfcaa.Script
