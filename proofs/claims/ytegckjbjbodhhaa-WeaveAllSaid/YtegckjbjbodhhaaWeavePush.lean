import Derived.Test.YtegckjbjbodhhaaWeaveOn
/- Package weave: an act laid behind the way in hand, and taken from it. -/
namespace Go.Proofs.Ytegckjbjbodhhaa.Weave
open Go.RowKit Go.Shelf Go.Proofs.YtegckjbjbodhhaaW.PrintWords Go.Proofs.YtegckjbjbodhhaaW.PrintMore Go.Proofs.Ytegckjbjbodhhaa.RangeX Go.Proofs.Ytegckjbjbodhhaa.Box
attribute [local go_sem] Oper.semAt_some
theorem inv_B {B l gy gw go : Nat} {wy : List Int} {X : Nat → Prop} {W : World} (h : Inv B l gy gw go wy X W) : B ≤ W.heap.size := by
  obtain ⟨hb0, _, _, _, h4, _⟩ := h
  have := blk_lt h4
  omega
/-- The closure's boxes alone. -/
def Inv0 (B l gy gw go : Nat) (X : Nat → Prop) (W : World) : Prop :=
  B ≤ gy ∧ X gy ∧ X gw ∧ X go ∧ W.heap[gy]? = some (.cells #[.func (.yield l) #[] #[]] 37 (0, 0)) ∧
    W.heap[go]? = some (.cells #[.func (.func 23) #[] #[.pointer (some ⟨gy, 0, none⟩), .pointer (some ⟨gw, 0, none⟩), .pointer (some ⟨go, 0, none⟩)]] 29 (0, 0)) ∧
    ∃ v, W.heap[gw]? = some (.cells #[v] 26 (0, 0))
theorem inv_ne0 {B l gy gw go : Nat} {X : Nat → Prop} {W : World} (h : Inv0 B l gy gw go X W) : gy ≠ gw ∧ go ≠ gw := by
  obtain ⟨hb0, h1, h2, h3, h4, h5, v, h6⟩ := h
  constructor
  · intro e; rw [e, h6] at h4; injection h4 with h4; injection h4 with _ h4; exact absurd h4 (by decide)
  · intro e; rw [e, h6] at h5; injection h5 with h5; injection h5 with _ h5; exact absurd h5 (by decide)
theorem Inv.boxes {B l gy gw go : Nat} {wy : List Int} {X : Nat → Prop} {W : World} (h : Inv B l gy gw go wy X W) : Inv0 B l gy gw go X W := by
  obtain ⟨hb0, h1, h2, h3, h4, h5, v, h6, h7⟩ := h
  exact ⟨hb0, h1, h2, h3, h4, h5, v, h6⟩
/-- The way in hand is laid anew. -/
theorem inv_set {B l gy gw go : Nat} {wz : List Int} {X : Nat → Prop} {W : World} (h : Inv0 B l gy gw go X W) (v : Value) (hv : Kd.R (Kd.int .i64) 3 W B X v wz) : Inv B l gy gw go wz X (W.setCell ⟨gw, 0, none⟩ v) := by
  obtain ⟨hn1, hn2⟩ := inv_ne0 h
  obtain ⟨hb0, h1, h2, h3, h4, h5, v0, h6⟩ := h
  refine ⟨hb0, h1, h2, h3, (Below.heap_setCell _ _ _ _ hn1).trans h4, (Below.heap_setCell _ _ _ _ hn2).trans h5, v, ?_, ?_⟩
  · simpa using blk_set h6 0 v
  · exact Kd.R_mono (Kd.R_set hv h6 (by decide) 0 v) (fun _ hk => hk)
theorem ab_set {J : List Item → (Nat → Prop) → World → Prop} (hJ : AbX J) {pre : List Item} {X : Nat → Prop} {W : World} (h : J pre X W) {g : Nat} (hg : X g) (v : Value) : J pre X (W.setCell ⟨g, 0, none⟩ v) :=
  hJ pre X W _ (some g) X h (grownBy_setCell' W g v) (fun r e => by cases e; exact hg) (fun _ hk => .inl hk)
theorem push_step {B l gy gw go : Nat} {J : List Item → (Nat → Prop) → World → Prop} (hJ : AbX J) {pre : List Item} {wy : List Int} {X : Nat → Prop} {W w1 : World} (a : Int) {v v1 : Value} {inner : List Value} (h0 : J pre X W) (hI : Inv B l gy gw go wy X W)
    (hgw : W.heap[gw]? = some (.cells #[v] 26 (0, 0))) (hr : Reps (Kd.M (Kd.int .i64) W B (fun k => X k ∧ some k ≠ v.ownBlock)) 1 wy inner) (hX : ∀ k, v.ownBlock = some k → X k) (hty : ∀ k, v.ownBlock = some k → ∃ cells, W.heap[k]? = some (.cells cells 3 (0, 0)))
    (hown : w1.ownsRow B 3 1 v1 (wy.length + 1) (inner ++ [.int .i64 a])) (hg : (W.alloc (.cells #[.int .i64 a] 3)).grownBy w1 v.ownBlock) (hat : v1.ownBlock = v.ownBlock ∨ v1.ownBlock = some (W.heap.size + 1)) :
    w1.heap[gw]? = some (.cells #[v] 26 (0, 0)) ∧ ∃ X', J pre X' (w1.setCell ⟨gw, 0, none⟩ v1) ∧ Inv B l gy gw go (wy ++ [a]) X' (w1.setCell ⟨gw, 0, none⟩ v1) := by
  have hgA : W.grownBy (W.alloc (.cells #[.int .i64 a] 3)) v.ownBlock := World.grownBy_alloc W _ _
  have hgW : W.grownBy w1 v.ownBlock := hgA.trans hg
  have hne : ∀ g t (cells : Array Value), W.heap[g]? = some (.cells cells t (0, 0)) → 3 ≠ t → some g ≠ v.ownBlock := by
    intro g t cells hc ht e
    obtain ⟨cs, h⟩ := hty g e.symm
    rw [hc] at h
    injection h with h; injection h with _ h
    exact ht h.symm
  have hJ1 : J pre (fun k => X k ∨ (W.heap.size ≤ k ∧ k < w1.heap.size)) w1 := hJ pre X W w1 _ _ h0 hgW (fun r e => hX r e) (fun k hk => hk)
  obtain ⟨hb0, h1, h2, h3, h4, h5, _, _, _⟩ := hI
  have k1 := (hgW.block gy (blk_lt h4) (hne _ _ _ h4 (by decide))).trans h4
  have k2 := (hgW.block go (blk_lt h5) (hne _ _ _ h5 (by decide))).trans h5
  have k3 := (hgW.block gw (blk_lt hgw) (hne _ _ _ hgw (by decide))).trans hgw
  have hR1 : Kd.R (Kd.int .i64) 3 w1 B (fun k => X k ∨ (W.heap.size ≤ k ∧ k < w1.heap.size)) v1 (wy ++ [a]) := by
    refine Kd.R_mono (Kd.R_bound (ok := fun k => X k ∨ W.heap.size ≤ k) ?_) (fun k hk => hk.1.imp id (fun h => ⟨h, hk.2.2.1⟩))
    refine Kd.R_appended (W := W) (v := v) (okp := fun _ => False) (inner := inner) (cs := [.int .i64 a]) (fun k hk => .inl (hX k hk)) (hr.imp_ (fun _ _ hp => Kd.M_mono _ (fun k hk => ⟨.inl hk.1, hk.2⟩) hp)) ?_ (fun k h => h.elim) (fun k hk => .inr hk) hown hgW ?_
    · exact rfl
    · rcases hat with e | e
      · exact .inl e
      · exact .inr ⟨_, e, by omega⟩
  refine ⟨k3, _, ab_set hJ hJ1 (.inl h2) v1, inv_set (⟨hb0, .inl h1, .inl h2, .inl h3, k1, k2, v, k3⟩ : Inv0 B l gy gw go _ w1) v1 hR1⟩
/-- append(way, act), at its place, with the store behind it in view. -/
theorem push_op {F : Fence} {nF : Nat} {ops : Array Oper} {rest : List Oper} {o : Oper} {A : Act} {Q : Exit → Act → World → Prop} {B l gy gw go : Nat} {J : List Item → (Nat → Prop) → World → Prop} (hJ : AbX J) {pre : List Item} {wy : List Int} {X : Nat → Prop} {W : World} (a : Int) (ad : Option Addr) (c : Nat)
    (h0 : J pre X W) (hI : Inv B l gy gw go wy X W) (hgw : W.cell? ⟨gw, 0, none⟩ = some (.slice ad wy.length c)) (hl : wy.length ≤ 16) (s x : Operand)
    (hgd : o.guard = none) (ho : o.op = .call { callee := .builtin .append, args := #[s, x], argTypes := #[26, 26] }) (hs : A.eval s = .slice ad wy.length c) (hx : A.eval x = .slice (some ⟨W.heap.size, 0, none⟩) 1 1)
    (h : ∀ g c1 w1 v1, v1 = .slice (some ⟨g, 0, none⟩) (wy.length + 1) c1 → w1.cell? ⟨gw, 0, none⟩ = some (.slice ad wy.length c) → w1.frozen? ⟨gw, 0, none⟩ = false → (w1.setCell ⟨gw, 0, none⟩ v1).cell? ⟨go, 0, none⟩ = some (.func (.func 23) #[] #[.pointer (some ⟨gy, 0, none⟩), .pointer (some ⟨gw, 0, none⟩), .pointer (some ⟨go, 0, none⟩)]) → (∃ X', J pre X' (w1.setCell ⟨gw, 0, none⟩ v1) ∧ Inv B l gy gw go (wy ++ [a]) X' (w1.setCell ⟨gw, 0, none⟩ v1)) → wpListIn F nF Try.prog ops Q rest (A.put o.dst v1) w1) :
    wpListIn F nF Try.prog ops Q (o :: rest) A (W.alloc (.cells #[.int .i64 a] 3)) := by
  have hB := inv_B hI
  have hI' := hI
  obtain ⟨hb0, h1, h2, h3, h4, h5, v, h6, h7⟩ := hI
  obtain rfl : v = .slice ad wy.length c := by
    have := blk_cell h6 0
    rw [hgw] at this
    simpa using this.symm
  obtain ⟨hX, inner, hown, hr⟩ := h7
  have hty := Kd.R_typed (⟨hX, inner, hown, hr⟩ : Kd.R (Kd.int .i64) 3 W B X _ wy)
  obtain ⟨i, hi, hi0, hi1, hi2⟩ : ∃ i, Try.prog.info? 3 = some i ∧ i.zero = some (.int .i64 0) ∧ i.size = 1 ∧ i.bytes = 8 := ⟨_, rfl, rfl, rfl, rfl⟩
  refine wpListIn_append_own_at _ hgd s x 26 ho B 3 i (.int .i64 0) 1 8 Try.underlying26 hi hi0 hi1 hi2 rfl (by decide) (.slice ad wy.length c) wy.length inner hs (hown.alloc _) ⟨W.heap.size, 0, none⟩ 1 1 [.int .i64 a] hx rfl ?_ ?_ (by simp only [maxLen]; omega) (by omega) (by simp; omega) ?_

  · intro j u hu
    cases j with
    | zero => simp at hu; subst hu; exact (blk_cell (blk_new _ _) 0).trans rfl
    | succ j => simp at hu
  · intro u hu; simp at hu; subst hu; rfl
  · intro v1 w1 ho1 hg1 _ hat1
    obtain ⟨k3, X', hj, hi⟩ := push_step hJ a h0 hI' h6 hr hX hty ho1 hg1 (by simpa using hat1)
    have hi' := hi
    obtain ⟨_, _, _, _, _, h5', v2, h6', h7'⟩ := hi'
    obtain ⟨g, c1, hv2, _, _, _⟩ := Kd.R_form h7' (by simp)
    rw [List.length_append, List.length_singleton] at hv2
    obtain rfl : v1 = v2 := by
      rw [blk_set k3 0 v1] at h6'
      simpa using h6'
    refine h g c1 w1 v1 hv2 ((blk_cell k3 0).trans rfl) (blk_frozen k3 0) ?_ ⟨X', hj, hi⟩
    exact (blk_cell h5' 0).trans rfl
/-- way[:len(way)-1], stored. -/
theorem pop_step {B l gy gw go : Nat} {J : List Item → (Nat → Prop) → World → Prop} (hJ : AbX J) {pre : List Item} {wy : List Int} {X : Nat → Prop} {W : World} (a : Int) (h0 : J pre X W) (hI : Inv B l gy gw go (wy ++ [a]) X W) :
    ∃ g c, W.cell? ⟨gw, 0, none⟩ = some (.slice (some ⟨g, 0, none⟩) (wy.length + 1) c) ∧ W.frozen? ⟨gw, 0, none⟩ = false ∧ wy.length + 1 ≤ c ∧
      J pre X (W.setCell ⟨gw, 0, none⟩ (.slice (some ⟨g, 0, none⟩) wy.length c)) ∧ Inv B l gy gw go wy X (W.setCell ⟨gw, 0, none⟩ (.slice (some ⟨g, 0, none⟩) wy.length c)) := by
  have hb := hI.boxes
  obtain ⟨_, _, h2, _, _, _, v, h6, h7⟩ := hI
  obtain ⟨g, c, rfl, _, _, _⟩ := Kd.R_form h7 (by simp)
  have hc := (Kd.R_reads' h7).2.1
  have h8 := Kd.R_take h7 (m := wy.length) (by simp)
  rw [List.take_left] at h8
  rw [List.length_append, List.length_singleton] at h6 hc
  exact ⟨g, c, (blk_cell h6 0).trans rfl, blk_frozen h6 0, hc, ab_set hJ h0 h2 _, inv_set hb _ h8⟩
/-- The ways as far as the round. -/
def parts (n m : Nat) : Nat → List (List Int)
  | 0 => []
  | 1 => if n = 0 then [] else (ways (n - 1) m).map (0 :: ·)
  | _ => (if n = 0 then [] else (ways (n - 1) m).map (0 :: ·)) ++ (if m = 0 then [] else (ways n (m - 1)).map (1 :: ·))
theorem parts_two (n m : Nat) (h : 0 < n + m) : parts n m 2 = ways n m := by
  rcases n with _ | n <;> rcases m with _ | m <;> simp [parts, ways]
  omega
/-- A round's way through the words. -/
theorem parts_at (n m i : Nat) (a : Int) (n' m' : Nat) (h : i = 0 ∧ a = 0 ∧ n ≠ 0 ∧ n' = n - 1 ∧ m' = m ∨ i = 1 ∧ a = 1 ∧ m ≠ 0 ∧ n' = n ∧ m' = m - 1) : parts n m (i + 1) = parts n m i ++ (ways n' m').map (a :: ·) ∧ ∃ r, parts n m 2 = parts n m (i + 1) ++ r := by
  rcases h with ⟨rfl, rfl, h, rfl, rfl⟩ | ⟨rfl, rfl, h, rfl, rfl⟩
  · exact ⟨by simp [parts, h], if m' = 0 then [] else (ways n (m' - 1)).map (1 :: ·), by simp [parts, h]⟩
  · exact ⟨by simp [parts, h], [], by simp [parts, h]⟩
theorem parts_same (n m i : Nat) (h : i = 0 ∧ n = 0 ∨ i = 1 ∧ m = 0) : parts n m (i + 1) = parts n m i := by
  rcases h with ⟨rfl, h⟩ | ⟨rfl, h⟩
  · simp [parts, h]
  · simp [parts, h]
theorem join_its {its it2 : List Item} {L M : List (List Int)} {wy : List Int} {a : Int} (h : its.map (·.2) = L.map (wy ++ ·)) (h2 : it2.map (·.2) = M.map ((wy ++ [a]) ++ ·)) : (its ++ it2).map (·.2) = (L ++ M.map (a :: ·)).map (wy ++ ·) := by
  rw [List.map_append, h, h2, List.map_append, List.map_map]
  simp [Function.comp_def]
theorem join_part {its it2 : List Item} {L M P r : List (List Int)} {wy : List Int} {a : Int} {R : List (List Int)} (h : its.map (·.2) = L.map (wy ++ ·)) (h2 : it2.map (·.2) ++ R = M.map ((wy ++ [a]) ++ ·)) (hP : P = L ++ M.map (a :: ·) ++ r) : ∃ R', (its ++ it2).map (·.2) ++ R' = P.map (wy ++ ·) := by
  refine ⟨R ++ r.map (wy ++ ·), ?_⟩
  rw [hP, List.map_append, h, List.map_append, List.map_append, List.map_map, List.append_assoc, ← List.append_assoc (it2.map (·.2)), h2]
  simp [Function.comp_def]
theorem room_at {n m i n' m' N : Nat} {a : Int} {pre its : List Item} {wy : List Int} (h : i = 0 ∧ a = 0 ∧ n ≠ 0 ∧ n' = n - 1 ∧ m' = m ∨ i = 1 ∧ a = 1 ∧ m ≠ 0 ∧ n' = n ∧ m' = m - 1) (hits : its.map (·.2) = (parts n m i).map (wy ++ ·)) (hN : pre.length + (parts n m 2).length ≤ N) : (pre ++ its).length + (ways n' m').length ≤ N := by
  obtain ⟨h1, r, h2⟩ := parts_at n m i a n' m' h
  have h3 := congrArg List.length hits
  have h4 := congrArg List.length h1
  have h5 := congrArg List.length h2
  simp only [List.length_map, List.length_append] at h3 h4 h5 ⊢
  omega
end Go.Proofs.Ytegckjbjbodhhaa.Weave
