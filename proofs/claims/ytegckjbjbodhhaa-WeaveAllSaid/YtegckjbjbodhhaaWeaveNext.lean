import Derived.Test.YtegckjbjbodhhaaWeaveRank
import Derived.Test.YtegckjbjbodhhaaPWx8
/- The reference's next way is the next one of the ways. -/
namespace Go.Proofs.Ytegckjbjbodhhaa.Weave
open Go.RowKit Go.Proofs.YtegckjbjbodhhaaW.PrintWords
theorem rd_app (p q : List Int) (x : Int) (i : Int) (h : i = p.length) : rd (p ++ x :: q) i = x := by
  subst h
  rw [rd_at _ _ (by simp)]
  simp
theorem set_app (p q : List Int) (x y : Int) (i : Nat) (h : i = p.length) : (p ++ x :: q).set i y = p ++ y :: q := by
  subst h
  simp
/-- Past r there lie u ones and then naughts alone. -/
theorem rd_tail (r : List Int) (u v : Nat) (i : Int) (j : Nat) (h : i = r.length + j) : rd (r ++ (List.replicate u 1 ++ List.replicate v 0)) i = if j < u then 1 else 0 := by
  subst h
  unfold rd
  rw [show ((r.length : Int) + (j : Int)).toNat = r.length + j by omega, List.getD_eq_getElem?_getD, List.getElem?_append_right (by omega), Nat.add_sub_cancel_left]
  by_cases hj : j < u
  · rw [if_pos hj, List.getElem?_append_left (by simpa using hj), List.getElem?_replicate, if_pos hj]; rfl
  · rw [if_neg hj, List.getElem?_append_right (by simpa using hj), List.length_replicate, List.getElem?_replicate]
    split <;> rfl
/-! The loops of next. -/
theorem next_l2 : ∀ (t : Nat) (seg : List Int), seg.length = t → ∀ (k : Nat) (pre post : List Int) (i j : Int), i = pre.length → j = (pre.length : Int) + t - 1 → t + 1 ≤ k → pre.length + t + post.length ≤ 1000 →
    PW.portholeref27_next.l2 k (pre ++ (seg ++ post)) i j = some (true, pre ++ (seg.reverse ++ post)) := by
  intro t
  induction t using Nat.strongRecOn with
  | ind t ih =>
    intro seg hs k pre post i j hi hj hk hl
    obtain ⟨k, rfl⟩ : ∃ q, k = q + 1 := ⟨k - 1, by omega⟩
    subst hi hj
    simp only [PW.portholeref27_next.l2]
    match seg, hs with
    | [], hs =>
      have ht : t = 0 := hs.symm
      rw [if_neg (by omega)]; rfl
    | [x], hs =>
      have ht : t = 1 := hs.symm
      rw [if_neg (by omega)]; rfl
    | x :: y :: s, hs =>
      obtain ⟨mid, z, hmz⟩ : ∃ mid z, y :: s = mid ++ [z] := ⟨(y :: s).dropLast, (y :: s).getLast (by simp), (List.dropLast_concat_getLast (by simp)).symm⟩
      rw [hmz] at hs ⊢
      have ht : t = mid.length + 2 := by rw [← hs]; simp
      subst ht
      have e1 : pre ++ (x :: (mid ++ [z]) ++ post) = pre ++ x :: (mid ++ z :: post) := by simp
      have e2 : pre ++ x :: (mid ++ z :: post) = (pre ++ x :: mid) ++ z :: post := by simp
      have hlen : ((pre ++ x :: (mid ++ z :: post)).length : Int) = pre.length + mid.length + post.length + 2 := by simp; omega
      have r1 : rd (pre ++ x :: (mid ++ z :: post)) (pre.length : Int) = x := rd_app _ _ _ _ rfl
      have r2 : rd (pre ++ x :: (mid ++ z :: post)) ((pre.length : Int) + ((mid.length + 2 : Nat) : Int) - 1) = z := by
        rw [e2]; exact rd_app _ _ _ _ (by simp; omega)
      rw [e1, hlen, if_pos (by omega), if_pos (by omega), if_pos (by omega), if_pos (by omega), if_pos (by omega), r1, r2, set_app _ _ _ _ _ (by omega), show pre ++ z :: (mid ++ z :: post) = (pre ++ z :: mid) ++ z :: post by simp, set_app _ _ _ _ _ (by simp; omega)]
      have := ih mid.length (by omega) mid rfl k (pre ++ [z]) (x :: post) (wrap64 ((pre.length : Int) + 1)) (wrap64 ((pre.length : Int) + ((mid.length + 2 : Nat) : Int) - 1 - 1)) (by simp; unfold wrap64; omega) (by simp; unfold wrap64; omega) (by omega) (by simp; omega)
      rw [show (pre ++ z :: mid) ++ x :: post = pre ++ [z] ++ (mid ++ x :: post) by simp, this]
      simp
theorem next_l1 (p : List Int) (a b : Nat) (hl : p.length + a + b ≤ 900) : ∀ (c k : Nat) (i j : Int), c ≤ b → i = p.length → j = (p.length : Int) + 1 + a + c → c + a + b + 4 ≤ k →
    PW.portholeref27_next.l1 k (p ++ 0 :: (List.replicate (a + 1) 1 ++ List.replicate b 0)) i j = some (true, p ++ 1 :: (List.replicate (b + 1) 0 ++ List.replicate a 1)) := by
  intro c
  have hlen : ((p ++ 0 :: (List.replicate (a + 1) 1 ++ List.replicate b 0)).length : Int) = p.length + a + b + 2 := by simp; omega
  have r1 : rd (p ++ 0 :: (List.replicate (a + 1) 1 ++ List.replicate b 0)) (p.length : Int) = 0 := rd_app _ _ _ _ rfl
  have r2 : ∀ (i : Int) (j : Nat), i = (p.length : Int) + 1 + j → rd (p ++ 0 :: (List.replicate (a + 1) 1 ++ List.replicate b 0)) i = if j < a + 1 then 1 else 0 := by
    intro i j h
    rw [show p ++ 0 :: (List.replicate (a + 1) 1 ++ List.replicate b 0) = (p ++ [0]) ++ (List.replicate (a + 1) 1 ++ List.replicate b 0) by simp]
    exact rd_tail _ _ _ _ _ (by simp; omega)
  induction c with
  | zero =>
    intro k i j hc hi hj hk
    obtain ⟨k, rfl⟩ : ∃ q, k = q + 1 := ⟨k - 1, by omega⟩
    subst hi hj
    simp only [PW.portholeref27_next.l1]
    rw [hlen, if_pos (by omega), if_pos (by omega), if_pos (by omega), if_pos (by omega), r1, r2 _ a (by omega), if_pos (show a < a + 1 by omega), if_neg (by decide), set_app _ _ _ _ _ (by omega)]
    rw [show p ++ 1 :: (List.replicate (a + 1) (1 : Int) ++ List.replicate b 0) = (p ++ 1 :: List.replicate a 1) ++ 1 :: List.replicate b 0 by rw [List.replicate_succ']; simp, set_app _ _ _ _ _ (by simp; omega)]
    rw [show (p ++ 1 :: List.replicate a (1 : Int)) ++ 0 :: List.replicate b 0 = (p ++ [1]) ++ ((List.replicate a 1 ++ List.replicate (b + 1) 0) ++ []) by rw [List.replicate_succ]; simp]
    rw [next_l2 (a + (b + 1)) _ (by simp) k (p ++ [1]) [] _ _ (by simp; unfold wrap64; omega) (by simp; unfold wrap64; omega) (by omega) (by simp; omega)]
    simp
  | succ c ih =>
    intro k i j hc hi hj hk
    obtain ⟨k, rfl⟩ : ∃ q, k = q + 1 := ⟨k - 1, by omega⟩
    subst hi hj
    simp only [PW.portholeref27_next.l1]
    rw [hlen, if_pos (by omega), if_pos (by omega), if_pos (by omega), if_pos (by omega), r1, r2 _ (a + (c + 1)) (by omega), if_neg (show ¬ a + (c + 1) < a + 1 by omega), if_pos (by decide)]
    exact ih k _ _ (by omega) rfl (by unfold wrap64; omega) (by omega)
theorem next_l0 (r : List Int) (u v : Nat) (hl : r.length + u + v ≤ 900) : ∀ (i k : Nat) (x : Int), i < u + v → x = (r.length : Int) + i - 1 → PW.portholeref27_next.l0 (k + i) (r ++ (List.replicate u 1 ++ List.replicate v 0)) x = PW.portholeref27_next.l0 k (r ++ (List.replicate u 1 ++ List.replicate v 0)) ((r.length : Int) - 1) := by
  intro i
  induction i with
  | zero => intro k x hi hx; rw [hx]; simp
  | succ i ih =>
    intro k x hi hx
    have hlen : ((r ++ (List.replicate u 1 ++ List.replicate v 0)).length : Int) = r.length + u + v := by simp; omega
    have r1 := rd_tail r u v x i (by omega)
    have r2 := rd_tail r u v (wrap64 (x + 1)) (i + 1) (by unfold wrap64; omega)
    rw [show k + (i + 1) = (k + i) + 1 by omega]
    simp only [PW.portholeref27_next.l0]
    rw [hlen, if_pos (by omega), if_pos (by omega), if_pos (by omega), if_pos (by unfold wrap64; omega), if_pos (by unfold wrap64; omega), r1, r2, if_pos (by split <;> split <;> omega)]
    exact ih k _ (by omega) (by unfold wrap64; omega)
/-- The next one. -/
def Succ (l l' : List Int) : Prop := ∃ p a b, l = p ++ 0 :: (List.replicate (a + 1) 1 ++ List.replicate b 0) ∧ l' = p ++ 1 :: (List.replicate (b + 1) 0 ++ List.replicate a 1)
def Last (l : List Int) : Prop := ∃ a b, l = List.replicate a 1 ++ List.replicate b 0
theorem next_succ {l l' : List Int} (h : Succ l l') (hl : l.length ≤ 800) (k : Nat) (hk : 3 * l.length + 10 ≤ k) : PW.portholeref27_next.f k l = some (true, l') := by
  obtain ⟨p, a, b, rfl, rfl⟩ := h
  have hlen : (p ++ 0 :: (List.replicate (a + 1) 1 ++ List.replicate b 0)).length = p.length + a + b + 2 := by simp; omega
  rw [hlen] at hl hk
  unfold PW.portholeref27_next.f
  rw [hlen]
  obtain ⟨k, rfl⟩ : ∃ q, k = q + 2 + (a + b) := ⟨k - (a + b) - 2, by omega⟩
  have e : p ++ 0 :: (List.replicate (a + 1) 1 ++ List.replicate b 0) = (p ++ [0]) ++ (List.replicate (a + 1) 1 ++ List.replicate b 0) := by simp
  have h1 := next_l0 (p ++ [0]) (a + 1) b (by simp; omega) (a + b) (k + 2) (wrap64 (((p.length + a + b + 2 : Nat) : Int) - 2)) (by omega) (by simp; unfold wrap64; omega)
  rw [← e] at h1
  rw [h1]
  have r1 : rd (p ++ 0 :: (List.replicate (a + 1) 1 ++ List.replicate b 0)) (((p ++ [0] : List Int).length : Int) - 1) = 0 := rd_app _ _ _ _ (by simp)
  have r2 : rd (p ++ 0 :: (List.replicate (a + 1) 1 ++ List.replicate b 0)) (wrap64 (((p ++ [0] : List Int).length : Int) - 1 + 1)) = 1 := by
    rw [e, rd_tail _ _ _ _ 0 (by simp; unfold wrap64; omega), if_pos (by omega)]
  simp only [PW.portholeref27_next.l0]
  rw [hlen, if_pos (by simp), if_pos (by simp), if_pos (by simp; omega), if_pos (by simp; unfold wrap64; omega), if_pos (by simp; unfold wrap64; omega), r1, r2, if_neg (by decide)]
  simp only [PW.portholeref27_next.j1]
  rw [if_neg (by simp), hlen]
  exact next_l1 p a b (by omega) b k _ _ (Nat.le_refl _) (by simp) (by unfold wrap64; omega) (by omega)
theorem next_last {l : List Int} (h : Last l) (hl : l.length ≤ 800) (k : Nat) (hk : 3 * l.length + 10 ≤ k) : PW.portholeref27_next.f k l = some (false, l) := by
  obtain ⟨a, b, rfl⟩ := h
  have hlen : (List.replicate a (1 : Int) ++ List.replicate b 0).length = a + b := by simp
  rw [hlen] at hl hk
  unfold PW.portholeref27_next.f
  rw [hlen]
  by_cases h0 : a + b = 0
  · obtain ⟨k, rfl⟩ : ∃ q, k = q + 2 := ⟨k - 2, by omega⟩
    simp only [PW.portholeref27_next.l0, PW.portholeref27_next.j1]
    rw [if_neg (by unfold wrap64; omega), if_pos (by unfold wrap64; omega)]
  · obtain ⟨k, rfl⟩ : ∃ q, k = q + 2 + (a + b - 1) := ⟨k - (a + b - 1) - 2, by omega⟩
    have h1 := next_l0 [] a b (by simp; omega) (a + b - 1) (k + 2) (wrap64 (((a + b : Nat) : Int) - 2)) (by omega) (by simp; unfold wrap64; omega)
    rw [List.nil_append] at h1
    rw [h1]
    simp only [PW.portholeref27_next.l0, PW.portholeref27_next.j1]
    rw [if_neg (by simp), if_pos (by simp)]
/-! The ways follow each other so. -/
def chainS : List (List Int) → Prop
  | x :: y :: r => Succ x y ∧ chainS (y :: r)
  | _ => True
theorem chainS_append : ∀ A B : List (List Int), chainS A → chainS B → (∀ x y, A.getLast? = some x → B.head? = some y → Succ x y) → chainS (A ++ B)
  | [], B, _, hB, _ => hB
  | [x], [], _, _, _ => trivial
  | [x], y :: B, _, hB, h => ⟨h x y rfl rfl, hB⟩
  | x :: y :: A, B, hA, hB, h => ⟨hA.1, chainS_append (y :: A) B hA.2 hB (fun a b h1 h2 => h a b (by rw [List.getLast?_cons_cons]; exact h1) h2)⟩
theorem chainS_map (c : Int) : ∀ A : List (List Int), chainS A → chainS (A.map (c :: ·))
  | [], _ => trivial
  | [_], _ => trivial
  | x :: y :: A, h => ⟨by
      obtain ⟨p, a, b, h1, h2⟩ := h.1
      exact ⟨c :: p, a, b, by simp [h1], by simp [h2]⟩, chainS_map c (y :: A) h.2⟩
theorem ways_chain : ∀ (s n m : Nat), n + m = s → chainS (ways n m) ∧ (ways n m).head? = some (List.replicate n 0 ++ List.replicate m 1) ∧ (ways n m).getLast? = some (List.replicate m 1 ++ List.replicate n 0) := by
  intro s
  induction s with
  | zero =>
    intro n m h
    obtain ⟨rfl, rfl⟩ : n = 0 ∧ m = 0 := by omega
    rw [show ways 0 0 = [[]] by simp [ways]]
    exact ⟨trivial, rfl, rfl⟩
  | succ s ih =>
    intro n m h
    rw [ways_split n m (by omega)]
    rcases n with _ | n
    · rcases m with _ | m
      · omega
      · obtain ⟨h1, h2, h3⟩ := ih 0 m (by omega)
        rw [if_pos rfl, if_neg (by omega), List.nil_append, Nat.add_sub_cancel]
        refine ⟨chainS_map 1 _ h1, by rw [List.head?_map, h2]; simp [List.replicate_succ], by rw [List.getLast?_map, h3]; simp [List.replicate_succ]⟩
    · obtain ⟨h1, h2, h3⟩ := ih n m (by omega)
      rcases m with _ | m
      · rw [if_neg (by omega), if_pos rfl, List.append_nil, Nat.add_sub_cancel]
        refine ⟨chainS_map 0 _ h1, by rw [List.head?_map, h2]; simp [List.replicate_succ], by rw [List.getLast?_map, h3]; simp [List.replicate_succ]⟩
      · obtain ⟨g1, g2, g3⟩ := ih (n + 1) m (by omega)
        rw [if_neg (by omega), if_neg (by omega), Nat.add_sub_cancel, Nat.add_sub_cancel]
        refine ⟨chainS_append _ _ (chainS_map 0 _ h1) (chainS_map 1 _ g1) ?_, ?_, ?_⟩
        · intro x y hx hy
          rw [List.getLast?_map, h3] at hx
          rw [List.head?_map, g2] at hy
          simp only [Option.map_some, Option.some.injEq] at hx hy
          exact ⟨[], m, n, by rw [← hx]; rfl, by rw [← hy]; rfl⟩
        · rw [List.head?_append, List.head?_map, h2]; simp [List.replicate_succ]
        · rw [List.getLast?_append, List.getLast?_map, g3]; simp [List.replicate_succ]
/-! All of the reference. -/
theorem rall_l0 : ∀ (r : List (List Int)) (x : List Int) (out : List (List Int)) (k : Nat) (most : Nat), chainS (x :: r) → (∀ y, (x :: r).getLast? = some y → Last y) → (∀ y ∈ x :: r, y.length ≤ 16) → most ≤ 1000 → out.length ≤ most → 62 + (most - out.length) ≤ k →
    PW.portholeref27_All.l0 k (most : Int) out x = some (out ++ (x :: r).take (most - out.length)) := by
  intro r
  induction r with
  | nil =>
    intro x out k most _ hlast hlen hm ho hk
    obtain ⟨k, rfl⟩ : ∃ q, k = q + 1 := ⟨k - 1, by omega⟩
    have hx := hlen x (by simp)
    simp only [PW.portholeref27_All.l0]
    by_cases h : out.length < most
    · rw [if_pos (by omega), if_pos (by simp; omega), if_pos (by omega), Option.bind_some, next_last (hlast x rfl) (by omega) k (by omega), Option.bind_some]
      obtain ⟨d, hd⟩ : ∃ d, most - out.length = d + 1 := ⟨most - out.length - 1, by omega⟩
      simp [hd]
    · rw [if_neg (by omega), show most - out.length = 0 by omega]; simp
  | cons y r ih =>
    intro x out k most hc hlast hlen hm ho hk
    obtain ⟨k, rfl⟩ : ∃ q, k = q + 1 := ⟨k - 1, by omega⟩
    have hx := hlen x (by simp)
    simp only [PW.portholeref27_All.l0]
    by_cases h : out.length < most
    · rw [if_pos (by omega), if_pos (by simp; omega), if_pos (by omega), Option.bind_some, next_succ hc.1 (by omega) k (by omega), Option.bind_some]
      rw [if_pos rfl, List.nil_append, ih y (out ++ [x]) k most hc.2 (fun z hz => hlast z (by rw [List.getLast?_cons_cons]; exact hz)) (fun z hz => hlen z (List.mem_cons_of_mem _ hz)) hm (by simp; omega) (by simp; omega)]
      obtain ⟨d, hd⟩ : ∃ d, most - out.length = d + 1 := ⟨most - out.length - 1, by omega⟩
      rw [hd, show most - (out ++ [x]).length = d by simp; omega]
      simp
    · rw [if_neg (by omega), show most - out.length = 0 by omega]; simp
theorem first_l0 (n m : Nat) (h : n + m ≤ 16) : ∀ (q k j : Nat), n + m - j = q → n ≤ j → j ≤ n + m → q + 1 ≤ k → PW.portholeref27_first.l0 k n m (List.replicate n 0 ++ (List.replicate (j - n) 1 ++ List.replicate q 0)) (j : Int) = some (List.replicate n 0 ++ List.replicate m 1) := by
  intro q
  induction q with
  | zero =>
    intro k j hq h1 h2 hk
    obtain ⟨k, rfl⟩ : ∃ q, k = q + 1 := ⟨k - 1, by omega⟩
    simp only [PW.portholeref27_first.l0]
    rw [if_neg (by unfold wrap64; omega), show j - n = m by omega]; simp
  | succ q ih =>
    intro k j hq h1 h2 hk
    obtain ⟨k, rfl⟩ : ∃ q, k = q + 1 := ⟨k - 1, by omega⟩
    simp only [PW.portholeref27_first.l0]
    rw [if_pos (by unfold wrap64; omega), if_pos (by omega), if_pos (by simp; omega)]
    rw [show List.replicate n (0 : Int) ++ (List.replicate (j - n) 1 ++ List.replicate (q + 1) 0) = (List.replicate n 0 ++ List.replicate (j - n) 1) ++ 0 :: List.replicate q 0 by rw [List.replicate_succ]; simp, set_app _ _ _ _ _ (by simp; omega)]
    rw [show (List.replicate n (0 : Int) ++ List.replicate (j - n) 1) ++ 1 :: List.replicate q 0 = List.replicate n 0 ++ (List.replicate (j + 1 - n) 1 ++ List.replicate q 0) by rw [show j + 1 - n = j - n + 1 by omega, List.replicate_succ']; simp]
    rw [show wrap64 ((j : Int) + 1) = ((j + 1 : Nat) : Int) by unfold wrap64; omega]
    exact ih k (j + 1) (by omega) (by omega) (by omega) (by omega)
theorem first_f (n m : Nat) (h : n + m ≤ 16) (k : Nat) (hk : 17 ≤ k) : PW.portholeref27_first.f k n m = some (List.replicate n 0 ++ List.replicate m 1) := by
  unfold PW.portholeref27_first.f
  rw [show wrap64 ((n : Int) + m) = ((n + m : Nat) : Int) by unfold wrap64; omega, if_pos (by omega), if_pos (by omega), Int.toNat_natCast]
  have := first_l0 n m h m k n (by omega) (by omega) (by omega) (by omega)
  rw [Nat.sub_self, List.replicate_zero, List.nil_append, List.replicate_append_replicate] at this
  exact this
theorem rall_f (n m : Int) (most : Nat) (hm : most ≤ 255) : PW.portholeref27_All.f 400 n m (most : Int) = some ((allW n m).take most) := by
  unfold PW.portholeref27_All.f
  rw [rmay_f, Option.bind_some]
  by_cases h : mayB n m = true
  · rw [if_pos h]
    obtain ⟨h0, h1, h2⟩ := (mayB_iff _ _).1 h
    obtain ⟨a, rfl⟩ := Int.eq_ofNat_of_zero_le h0
    obtain ⟨b, rfl⟩ := Int.eq_ofNat_of_zero_le h1
    rw [first_f a b (by omega) 400 (by omega), Option.bind_some, allW_at a b (by omega)]
    obtain ⟨c1, c2, c3⟩ := ways_chain _ a b rfl
    have hlen : ∀ y ∈ ways a b, y.length ≤ 16 := fun y hy => (wayB_of a b y (by rw [allW_at a b (by omega)]; exact hy)).2
    cases hw : ways a b with
    | nil => rw [hw] at c2; cases c2
    | cons x r =>
      rw [hw] at c1 c2 c3 hlen
      simp only [List.head?_cons, Option.some.injEq] at c2
      rw [← c2]
      have := rall_l0 r x [] 400 most c1 (fun y hy => by rw [c3] at hy; cases hy; exact ⟨b, a, rfl⟩) hlen (by omega) (by simp) (by simp; omega)
      simpa using this
  · rw [if_neg h, allW, if_neg h]; simp
end Go.Proofs.Ytegckjbjbodhhaa.Weave
