import Derived.Test.YtenadfoomejmkaaGreatDoorSndV
/- The engine: calls at known flat data, kept in a table; each is a run of the engine itself. -/
namespace Go.Proofs.YtenadfoomejmkaaGreatDoor.Eng
open Go
set_option linter.unusedSimpArgs false
set_option linter.unusedVariables false
noncomputable section
/-- a part of an argument: a plain value, or a row of plain values -/
inductive FE where
  | sc (v : AV)
  | row (n z : Nat) (l : List AV)
mutual
/-- plain: no memory in it -/
def flat : AV → Bool
  | .undef => true
  | .bool _ => true
  | .int _ _ => true
  | .str _ => true
  | .nilP => true
  | .nilS => true
  | .nilM => true
  | .nilF => true
  | .nilI => true
  | .agg l => flats l
  | .tup l => flats l
  | _ => false
def flats : List AV → Bool
  | [] => true
  | a :: r => flat a && flats r
end
def flatE : List FE → Bool
  | [] => true
  | .sc v :: r => flat v && flatE r
  | .row _ _ l :: r => flats l && flatE r
/-- a prefix -/
def pre : List AV → List AV → Bool
  | [], _ => true
  | a :: l, b :: r => ite2 (AV.beq a b) (pre l r) false
  | _ :: _, [] => false
def matchF : List FE → List AV → Tr AObj → Option (List Nat)
  | [], [], _ => some []
  | .sc v :: r, a :: s, H => ch (AV.beq v a) (matchF r s H)
  | .row n z l :: r, .slc id off m (.unk k y) :: s, H => ch ((Nat.beq off 0 && Nat.beq m n) && (Nat.beq k 0 && Nat.beq y z)) (ob (getC H id) fun c => ch (pre l c) (ob (matchF r s H) fun ids => some (id :: ids)))
  | _, _, _ => none
def newN (x : Nat) : List Nat → Bool
  | [] => true
  | y :: r => ite2 (Nat.beq x y) false (newN x r)
def nodupN : List Nat → Bool
  | [] => true
  | x :: r => newN x r && nodupN r
def canA (k : Nat) : List FE → List AV
  | [] => []
  | .sc v :: r => v :: canA k r
  | .row n z _ :: r => .slc k 0 n (.unk 0 z) :: canA (k + 1) r
def rowsE : List FE → List (List AV)
  | [] => []
  | .sc _ :: r => rowsE r
  | .row _ _ l :: r => l :: rowsE r
def canH (k : Nat) (t : Tr AObj) : List (List AV) → Tr AObj
  | [] => t
  | l :: r => Tr.put dep k (some (.cells true l)) (canH (k + 1) t r)
/-- a known call: a function, its arguments (the first one in parts), what comes -/
structure Known where
  f : Nat
  a : List FE
  s : List AV
  r : AV
def Known.args (K : Known) : List AV := .agg (canA 2 K.a) :: K.s
def Known.mem (K : Known) : Hp := ⟨canH 2 .nil (rowsE K.a), 2 + (rowsE K.a).length⟩
def hitK (K : Known) (f : Nat) (args : List AV) (H : Hp) : Bool :=
  ite2 (Nat.beq f K.f) (match args with
    | .agg l :: s => ite2 (AV.beqL K.s s) (match matchF K.a l H.t with
      | some ids => nodupN ids
      | none => false) false
    | _ => false) false
def memoK : List Known → Memo
  | [], _, _, _ => none
  | K :: r, f, args, H => ite2 (hitK K f args H) (some (K.r, H)) (memoK r f args H)
/-- a table asked only for some functions -/
def memoT (fs : List Nat) (l : List Known) : Memo := fun f args H => ite2 (newN f fs) none (memoK l f args H)
end
section
variable (ω : Bool → Int)
mutual
theorem flat_conc (φ φ' : Phi) : ∀ {v : AV}, flat v = true → conc ω φ v = conc ω φ' v
  | .undef, _ => rfl
  | .bool _, _ => rfl
  | .int _ _, _ => rfl
  | .str _, _ => rfl
  | .nilP, _ => rfl
  | .nilS, _ => rfl
  | .nilM, _ => rfl
  | .nilF, _ => rfl
  | .nilI, _ => rfl
  | .agg l, h => by simp only [conc, beqL_flat φ φ' (l := l) (by simpa [flat] using h)]
  | .tup l, h => by simp only [conc, beqL_flat φ φ' (l := l) (by simpa [flat] using h)]
  | .opq _ _, h => by simp [flat] at h
  | .ptr _ _, h => by simp [flat] at h
  | .slc _ _ _ _, h => by simp [flat] at h
  | .map _, h => by simp [flat] at h
  | .fn _ _ _, h => by simp [flat] at h
  | .ifc _ _, h => by simp [flat] at h
theorem beqL_flat (φ φ' : Phi) : ∀ {l : List AV}, flats l = true → concL ω φ l = concL ω φ' l
  | [], _ => rfl
  | a :: r, h => by
    simp only [flats, Bool.and_eq_true] at h
    simp only [concL, flat_conc φ φ' h.1, beqL_flat φ φ' h.2]
end
theorem flats_mem : ∀ {l : List AV}, flats l = true → ∀ v ∈ l, flat v = true
  | [], _, v, h => by cases h
  | a :: r, h, v, hv => by
    simp only [flats, Bool.and_eq_true] at h
    rcases List.mem_cons.1 hv with hv | hv
    · subst hv; exact h.1
    · exact flats_mem h.2 v hv
theorem pre_ok : ∀ {l c : List AV}, pre l c = true → ∀ (i : Nat) (v : AV), l[i]? = some v → c[i]? = some v
  | [], _, _, i, v, h => by simp at h
  | a :: l, [], h, _, _, _ => by cases h
  | a :: l, b :: r, h, i, v, hv => by
    have h1 : ite2 (AV.beq a b) (pre l r) false = true := h
    clear h
    rw [ite2_eq] at h1
    split at h1
    · rename_i hab
      have := beq_eq a b hab
      subst this
      cases i with
      | zero => exact hv
      | succ i => exact pre_ok (l := l) (c := r) h1 i v hv
    · cases h1
theorem pre_len : ∀ {l c : List AV}, pre l c = true → l.length ≤ c.length
  | [], _, _ => Nat.zero_le _
  | a :: l, [], h => by cases h
  | a :: l, b :: r, h => by
    have h : ite2 (AV.beq a b) (pre l r) false = true := h
    rw [ite2_eq] at h
    split at h
    · exact Nat.succ_le_succ (pre_len h)
    · cases h
theorem newN_ok {x : Nat} : ∀ {l : List Nat}, newN x l = true → x ∉ l
  | [], _ => by simp
  | y :: r, h => by
    have h : ite2 (Nat.beq x y) false (newN x r) = true := h
    rw [ite2_eq] at h
    split at h
    · cases h
    · rename_i hxy
      rw [nbeqI] at hxy
      simp only [List.mem_cons, not_or]
      exact ⟨hxy, newN_ok h⟩
theorem nodupN_ok : ∀ {l : List Nat}, nodupN l = true → l.Nodup
  | [], _ => List.nodup_nil
  | x :: r, h => by
    have h : (newN x r && nodupN r) = true := h
    rw [Bool.and_eq_true] at h
    exact List.nodup_cons.2 ⟨newN_ok h.1, nodupN_ok h.2⟩
/-- what a match tells -/
theorem matchF_ok {H : Tr AObj} {φ φ' : Phi} : ∀ {fs : List FE} {l : List AV} {ids : List Nat} {k : Nat}, matchF fs l H = some ids → flatE fs = true → (∀ (j id : Nat), ids[j]? = some id → φ' (k + j) = φ id) →
    (∀ L, concL ω φ l = some L → concL ω φ' (canA k fs) = some L) ∧ ids.length = (rowsE fs).length ∧ ∀ (j id : Nat) (r : List AV), ids[j]? = some id → (rowsE fs)[j]? = some r → ∃ ro c, H.get id = some (.cells ro c) ∧ pre r c = true ∧ flats r = true
  | [], [], ids, k, h, _, _ => by
    cases h
    exact ⟨fun L hL => hL, rfl, fun j id r h => by simp at h⟩
  | .sc v :: fs, a :: l, ids, k, h, hf, hφ => by
    obtain ⟨hv, hm⟩ := ch_some (show ch _ _ = some ids from h)
    clear h
    have := beq_eq _ _ hv
    subst this
    have hf : (flat v && flatE fs) = true := hf
    rw [Bool.and_eq_true] at hf
    obtain ⟨h1, h2, h3⟩ := matchF_ok (fs := fs) (l := l) (k := k) hm hf.2 hφ
    refine ⟨fun L hL => ?_, h2, h3⟩
    obtain ⟨y, L', hy, hL', rfl⟩ := concL_cons ω hL
    exact concL_mk ω ((flat_conc ω φ' φ hf.1).trans hy) (h1 L' hL')
  | .row n z r :: fs, a :: l, ids, k, h, hf, hφ => by
    cases a
    case slc id off m cap =>
      cases cap with
      | known c => exact nomatch (show none = some ids from h)
      | unk k' y =>
        obtain ⟨hc, h⟩ := ch_some (show ch _ _ = some ids from h)
        obtain ⟨c, hg, h⟩ := ob_some h
        obtain ⟨hp, h⟩ := ch_some h
        obtain ⟨ids', hi, h⟩ := ob_some h
        cases h
        simp only [Bool.and_eq_true, nbeqI] at hc
        obtain ⟨⟨rfl, rfl⟩, rfl, rfl⟩ := hc
        have hf : (flats r && flatE fs) = true := hf
        rw [Bool.and_eq_true] at hf
        obtain ⟨h1, h2, h3⟩ := matchF_ok (k := k + 1) hi hf.2 (fun j id' hj => by rw [show k + 1 + j = k + (j + 1) by omega]; exact hφ (j + 1) id' hj)
        have h0 := hφ 0 id rfl
        refine ⟨fun L hL => ?_, by simp [rowsE, h2], fun j id' r' hj hr => ?_⟩
        · obtain ⟨x, L', hx, hL', rfl⟩ := concL_cons ω hL
          refine concL_mk ω ?_ (h1 L' hL')
          rw [Nat.add_zero] at h0
          simp only [conc] at hx ⊢
          rw [h0]
          exact hx
        · cases j with
          | zero =>
            cases hj
            cases hr
            obtain ⟨ro, hro⟩ := getC_some hg
            exact ⟨ro, c, hro, hp, hf.1⟩
          | succ j => exact h3 j id' r' hj hr
    all_goals exact nomatch (show none = some ids from h)
  | [], _ :: _, _, _, h, _, _ => by cases h
  | .sc _ :: _, [], _, _, h, _, _ => by cases h
  | .row _ _ _ :: _, [], _, _, h, _, _ => by cases h
theorem canH_get {t : Tr AObj} : ∀ {rs : List (List AV)} {k : Nat}, k + rs.length < lim → ∀ i, (canH k t rs).get i = if k ≤ i ∧ i < k + rs.length then (rs[i - k]?).map fun l => AObj.cells true l else t.get i
  | [], k, _, i => by
    rw [if_neg (by intro hh; have := hh.1; have := hh.2; simp at this; omega)]
    rfl
  | l :: r, k, hk, i => by
    simp only [List.length_cons] at hk ⊢
    show (Tr.put dep k _ (canH (k + 1) t r)).get i = _
    rw [get_put _ _ _ _ (by omega)]
    by_cases hi : i = k
    · subst hi
      rw [if_pos rfl, if_pos ⟨Nat.le_refl _, by omega⟩, Nat.sub_self]
      rfl
    · rw [if_neg hi, canH_get (by omega) i]
      by_cases h1 : k + 1 ≤ i ∧ i < k + 1 + r.length
      · rw [if_pos h1, if_pos ⟨by omega, by omega⟩]
        rw [show i - k = (i - (k + 1)) + 1 by omega]
        rfl
      · rw [if_neg h1, if_neg (by omega)]
/-- all that the canonical memory has is only read: nothing that was there is turned -/
theorem Post.same {φ φ' : Phi} {H H' : Hp} {w w' : World} (hp : Post φ H w φ' H' w') (hr : Rel ω φ H w) (h : ∀ i o, H.t.get i = some o → i < H.nx ∧ ∃ l, o = .cells true l) : ∀ b, b < w.heap.size → w'.heap[b]? = w.heap[b]? := fun b hb => by
  by_cases ha : Alive φ H b
  · obtain ⟨i, o, e', h1, h2, h3⟩ := ha
    obtain ⟨hi, l, rfl⟩ := h i o h1
    have := (hp.ro i l e' hi h1 h2).2
    rwa [h3] at this
  · exact hp.kept b hb ha
theorem Post.none {φ φ' : Phi} {H Hc H' : Hp} {φc : Phi} {w w' : World} (hr : Rel ω φ H w) (hp : Post φc Hc w φ' H' w') (hb : ∀ b, b < w.heap.size → w'.heap[b]? = w.heap[b]?) : Post φ H w φ H w' :=
  ⟨fun _ _ => rfl, Nat.le_refl _, hp.size, fun i o h _ => ⟨o, h⟩, fun _ h _ => h, fun b hlt _ => hb b hlt, fun i l e _ h he => ⟨h, by
    obtain ⟨e', g1, _, g3⟩ := hr.obj i _ h
    rw [he] at g1
    cases g1
    exact hb _ (ObjOk.lt ω g3)⟩, hp.os⟩
/-- a known call stands -/
structure Stands (M : Memo) (K : Known) : Prop where
  run : ∃ n H', callF (exec M n) K.f K.args K.mem = some (K.r, H')
  a : flatE K.a = true
  s : flats K.s = true
  r : flat K.r = true
  lim : 2 + (rowsE K.a).length < lim
theorem known_ok (hω : ω true ≠ ω false) {M : Memo} (hM : MemoOk ω M) {K : Known} (hK : Stands M K) {f : Nat} {args : List AV} {H : Hp} (hit : hitK K f args H = true) {F : Fence} {n : Nat} (hW : Wd F) {φ : Phi} {w : World} {L : List Value} (h : Rel ω φ H w) (hL : concL ω φ args = some L) :
    CallsIn F n PP f L.toArray w fun e w' => ∃ φ' x, e = .returned x ∧ conc ω φ' K.r = some x ∧ Rel ω φ' H w' ∧ Post φ H w φ' H w' := by
  unfold hitK at hit
  rw [ite2_eq] at hit
  split at hit
  · rename_i hf
    rw [nbeqI] at hf
    subst hf
    split at hit
    · rename_i l s
      rw [ite2_eq] at hit
      split at hit
      · rename_i hs
        have := beqL_eq _ _ hs
        subst this
        split at hit
        · rename_i ids hids
          have hnd := nodupN_ok hit
          let φc : Phi := fun i => if i < 2 then φ i else (ids[i - 2]?).bind φ
          have hφ : ∀ (j id : Nat), ids[j]? = some id → φc (2 + j) = φ id := fun j id hj => by
            show (if 2 + j < 2 then _ else _) = _
            rw [if_neg (by omega), show 2 + j - 2 = j by omega, hj]
            rfl
          obtain ⟨h1, h2, h3⟩ := matchF_ok ω (φ := φ) (φ' := φc) (k := 2) hids hK.a hφ
          obtain ⟨x, S, hx, hS, rfl⟩ := concL_cons ω hL
          simp only [conc, Option.map_eq_some_iff] at hx
          obtain ⟨A, hA, rfl⟩ := hx
          have hcan : concL ω φc K.args = some (.agg A.toArray :: S) := by
            refine concL_mk ω ?_ ((beqL_flat ω φc φ hK.s).trans hS)
            simp only [conc, h1 A hA, Option.map_some]
          have hget : ∀ i o, K.mem.t.get i = some o → 2 ≤ i ∧ ∃ id r, ids[i - 2]? = some id ∧ (rowsE K.a)[i - 2]? = some r ∧ o = .cells true r := fun i o hi => by
            have hi : (canH 2 .nil (rowsE K.a)).get i = some o := hi
            rw [canH_get hK.lim] at hi
            split at hi
            · rename_i hc
              have hlt : i - 2 < (rowsE K.a).length := by omega
              rw [List.getElem?_eq_getElem hlt] at hi
              cases hi
              exact ⟨hc.1, ids[i - 2]'(by omega), _, List.getElem?_eq_getElem (by omega), List.getElem?_eq_getElem hlt, rfl⟩
            · cases hi
          have hrel : Rel ω φc K.mem w := by
            refine ⟨fun id hid => ?_, fun g hg => ?_, fun i o hi => ?_, fun i j oi oj ei ej hi hj hei hej hbl => ?_⟩
            · have hid : 2 + (rowsE K.a).length ≤ id := hid
              show (if id < 2 then _ else _) = _
              rw [if_neg (by omega), List.getElem?_eq_none (by omega)]
              rfl
            · obtain ⟨c, z, hc⟩ := h.g0 g hg
              exact ⟨c, z, by show (if g < 2 then _ else _) = _; rw [if_pos hg]; exact hc⟩
            · obtain ⟨h2i, id, r, g1, g2, rfl⟩ := hget i o hi
              obtain ⟨ro, c, k1, k2, k3⟩ := h3 _ _ _ g1 g2
              obtain ⟨e, e1, e2, arr, el, fz, m1, m2, m3, m4, m5⟩ := h.obj id _ k1
              have hlt := (List.getElem?_eq_some_iff.1 g2).1
              refine ⟨e, ?_, by have := hK.lim; omega, arr, el, fz, m1, fun h => (by cases h), by have := pre_len k2; omega, m4, fun t v hv => ?_⟩
              · show (if i < 2 then _ else _) = _
                rw [if_neg (by omega), g1]
                exact e1
              · obtain ⟨y, hy, hy2⟩ := m5 t v (pre_ok k2 t v hv)
                exact ⟨y, (flat_conc ω φc φ (flats_mem k3 v (List.mem_of_getElem? hv))).trans hy, hy2⟩
            · obtain ⟨h2i, id, r, g1, g2, rfl⟩ := hget i oi hi
              obtain ⟨h2j, id', r', g1', g2', rfl⟩ := hget j oj hj
              obtain ⟨ro, c, k1, _⟩ := h3 _ _ _ g1 g2
              obtain ⟨ro', c', k1', _⟩ := h3 _ _ _ g1' g2'
              have hei : (if i < 2 then φ i else (ids[i - 2]?).bind φ) = some ei := hei
              have hej : (if j < 2 then φ j else (ids[j - 2]?).bind φ) = some ej := hej
              rw [if_neg (by omega), g1] at hei
              rw [if_neg (by omega), g1'] at hej
              have := h.inj id id' _ _ ei ej k1 k1' hei hej hbl
              subst this
              have := (List.getElem?_inj (List.getElem?_eq_some_iff.1 g1).1 hnd).1 (g1.trans g1'.symm)
              omega
          obtain ⟨m, H', hrun⟩ := hK.run
          refine (fn_ok ω (exec_sound ω hω hM m) hrun hW hrel hcan).mono fun e w' ⟨φ', y, he, hy, hrel', hp⟩ => ?_
          have hsame := hp.same ω hrel fun i o hi => by
            obtain ⟨h2i, id, r, g1, g2, rfl⟩ := hget i o hi
            have hlt := (List.getElem?_eq_some_iff.1 g2).1
            exact ⟨by show i < 2 + (rowsE K.a).length; omega, r, rfl⟩
          exact ⟨φ, y, he, (flat_conc ω φ φ' hK.r).trans hy, h.grow ω hsame, Post.none ω h hp hsame⟩
        · cases hit
      · cases hit
    · cases hit
  · cases hit
theorem memoK_ok (hω : ω true ≠ ω false) {M : Memo} (hM : MemoOk ω M) : ∀ {l : List Known}, (∀ K ∈ l, Stands M K) → MemoOk ω (memoK l)
  | [], _ => fun f args H r H' h => by cases h
  | K :: l, hl => fun f args H r H' h F n hW φ w L hr hL => by
    have h : ite2 (hitK K f args H) (some (K.r, H)) (memoK l f args H) = some (r, H') := h
    rw [ite2_eq] at h
    split at h
    · rename_i hit
      cases h
      exact known_ok ω hω hM (hl K List.mem_cons_self) hit hW hr hL
    · exact memoK_ok hω hM (fun K' hK' => hl K' (List.mem_cons_of_mem _ hK')) f args H r H' h F n hW φ w L hr hL
theorem memoT_ok (hω : ω true ≠ ω false) {M : Memo} (hM : MemoOk ω M) {fs : List Nat} {l : List Known} (hl : ∀ K ∈ l, Stands M K) : MemoOk ω (memoT fs l) := fun f args H r H' h => by
  have h : ite2 (newN f fs) none (memoK l f args H) = some (r, H') := h
  rw [ite2_eq] at h
  split at h
  · cases h
  · exact memoK_ok ω hω hM hl f args H r H' h
end
end Go.Proofs.YtenadfoomejmkaaGreatDoor.Eng
