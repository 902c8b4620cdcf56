import Derived.Test.YtenadfoomejmkaaGreatDoorKnown
/- The engine: known calls with an effect: at just this memory they answer so and leave it so; what else is in memory stays. -/
namespace Go.Proofs.YtenadfoomejmkaaGreatDoor.Eng
open Go
set_option linter.unusedSimpArgs false
set_option linter.unusedVariables false
noncomputable section
def pairsEq : List (AV × AV) → List (AV × AV) → Bool
  | [], [] => true
  | a :: l, b :: r => (AV.beq a.1 b.1 && AV.beq a.2 b.2) && pairsEq l r
  | _, _ => false
def objEq : AObj → AObj → Bool
  | .cells a l, .cells b r => (a == b) && AV.beqL l r
  | .map l, .map r => pairsEq l r
  | _, _ => false
abbrev Objs := List (Nat × AObj)
structure Eff where
  f : Nat
  args : List AV
  ins : Objs
  nx : Nat
  r : AV
  outs : Objs
  nx' : Nat
def memOf (t : Tr AObj) : Objs → Tr AObj
  | [] => t
  | p :: r => Tr.put dep p.1 (some p.2) (memOf t r)
def delOf (t : Tr AObj) : Objs → Tr AObj
  | [] => t
  | p :: r => Tr.put dep p.1 none (delOf t r)
def hasG (o : Option AObj) (q : AObj) : Bool := match o with
  | some o => objEq o q
  | none => false
def hasO (H : Tr AObj) : Objs → Bool
  | [] => true
  | p :: r => ite2 (hasG (H.get p.1) p.2) (hasO H r) false
def lookO (i : Nat) : Objs → Option AObj
  | [] => none
  | p :: r => ite2 (Nat.beq i p.1) (some p.2) (lookO i r)
def limO : Objs → Bool
  | [] => true
  | p :: r => ite2 (Nat.blt p.1 lim) (limO r) false
def isRo : AObj → Bool
  | .cells b _ => b
  | _ => false
def roO (outs : Objs) : Objs → Bool
  | [] => true
  | p :: r => ite2 (ite2 (isRo p.2) (hasG (lookO p.1 outs) p.2) true) (roO outs r) false
def Eff.mem (E : Eff) : Hp := ⟨memOf .nil E.ins, E.nx⟩
def Eff.left (E : Eff) (H : Hp) : Hp := ⟨memOf (delOf H.t E.ins) E.outs, E.nx'⟩
def hitE (E : Eff) (f : Nat) (args : List AV) (H : Hp) : Bool := ite2 (Nat.beq f E.f) (ite2 (Nat.beq H.nx E.nx) (ite2 (AV.beqL args E.args) (hasO H.t E.ins) false) false) false
def memoE (M : Memo) : List Eff → Memo
  | [] => M
  | E :: r => fun f args H => ite2 (hitE E f args H) (some (E.r, E.left H)) (memoE M r f args H)
def okE (E : Eff) (r : Option (AV × Hp)) : Bool := match r with
  | some (x, H) => (AV.beq x E.r && Nat.beq H.nx E.nx') && hasO H.t E.outs
  | none => false
/-- it stands -/
structure StandsE (M : Memo) (E : Eff) : Prop where
  run : ∃ n, okE E (callF (exec M n) E.f E.args E.mem) = true
  insL : limO E.ins = true
  outsL : limO E.outs = true
  ro : roO E.outs E.ins = true
/-- a known call that turns nothing: at just these arguments and these rows it answers so -/
structure Pur where
  f : Nat
  args : List AV
  ins : List (Nat × List AV)
  nx : Nat
  r : AV
def roRows : List (Nat × List AV) → Objs
  | [] => []
  | p :: r => (p.1, .cells true p.2) :: roRows r
def Pur.mem (E : Pur) : Hp := ⟨memOf .nil (roRows E.ins), E.nx⟩
def rowG (o : Option (List AV)) (l : List AV) : Bool := match o with
  | some c => AV.beqL c l
  | none => false
def hasR (H : Tr AObj) : List (Nat × List AV) → Bool
  | [] => true
  | p :: r => ite2 (rowG (getC H p.1) p.2) (hasR H r) false
def hitP (E : Pur) (f : Nat) (args : List AV) (H : Hp) : Bool := ite2 (Nat.beq f E.f) (ite2 (Nat.beq H.nx E.nx) (ite2 (AV.beqL args E.args) (hasR H.t E.ins) false) false) false
def memoP (M : Memo) : List Pur → Memo
  | [] => M
  | E :: r => fun f args H => ite2 (hitP E f args H) (some (E.r, H)) (memoP M r f args H)
structure StandsP (M : Memo) (E : Pur) : Prop where
  run : ∃ n, okR E.r (callF (exec M n) E.f E.args E.mem) = true
  insL : limO (roRows E.ins) = true
  nx : ∀ i o, lookO i (roRows E.ins) = some o → i < E.nx
  r : flat E.r = true
def ltO (n : Nat) : Objs → Bool
  | [] => true
  | p :: r => ite2 (Nat.blt p.1 n) (ltO n r) false
end
theorem ltO_look {n : Nat} : ∀ {l : Objs}, ltO n l = true → ∀ i o, lookO i l = some o → i < n
  | [], _, i, o, h => by cases h
  | p :: r, hh, i, o, h => by
    have hh : ite2 (Nat.blt p.1 n) (ltO n r) false = true := hh
    rw [ite2_eq] at hh
    split at hh
    · rename_i hp
      have h : ite2 (Nat.beq i p.1) (some p.2) (lookO i r) = some o := h
      rw [ite2_eq] at h
      split at h
      · rename_i hi; rw [nbeqI] at hi; subst hi; exact nblt hp
      · exact ltO_look hh i o h
    · cases hh
theorem hasR_look {H : Tr AObj} : ∀ {l : List (Nat × List AV)}, hasR H l = true → ∀ {i : Nat} {o : AObj}, lookO i (roRows l) = some o → ∃ b c, H.get i = some (.cells b c) ∧ o = .cells true c
  | [], _, i, o, h => by cases h
  | p :: r, hh, i, o, h => by
    have hh : ite2 (rowG (getC H p.1) p.2) (hasR H r) false = true := hh
    rw [ite2_eq] at hh
    split at hh
    · rename_i hp
      have h1 : ite2 (Nat.beq i p.1) (some (.cells true p.2)) (lookO i (roRows r)) = some o := h
      clear h
      rw [ite2_eq] at h1
      split at h1
      · rename_i hi
        rw [nbeqI] at hi
        subst hi
        have h2 := Option.some.inj h1
        subst h2
        cases hg : getC H p.1 with
        | none => rw [hg] at hp; cases hp
        | some c =>
          rw [hg] at hp
          have := beqL_eq _ _ (show AV.beqL c p.2 = true from hp)
          subst this
          obtain ⟨b, hb⟩ := getC_some hg
          exact ⟨b, _, hb, rfl⟩
      · exact hasR_look hh h1
    · cases hh
theorem pairsEq_eq : ∀ {a b : List (AV × AV)}, pairsEq a b = true → a = b
  | [], [], _ => rfl
  | (a1, a2) :: l, (b1, b2) :: r, h => by
    simp only [pairsEq, Bool.and_eq_true] at h
    rw [beq_eq _ _ h.1.1, beq_eq _ _ h.1.2, pairsEq_eq h.2]
  | [], _ :: _, h => by cases h
  | _ :: _, [], h => by cases h
theorem objEq_eq {a b : AObj} (h : objEq a b = true) : a = b := by
  cases a <;> cases b <;> simp only [objEq, Bool.and_eq_true, Bool.false_eq_true] at h
  · rename_i x l y r
    rw [beqL_eq _ _ h.2, show x = y by simpa using h.1]
  · rw [pairsEq_eq h]
theorem lookO_cons (i : Nat) (p : Nat × AObj) (r : Objs) : lookO i (p :: r) = if i = p.1 then some p.2 else lookO i r := by
  show ite2 (Nat.beq i p.1) (some p.2) (lookO i r) = _
  rw [ite2_eq]
  simp only [nbeqI]
theorem memOf_get {t : Tr AObj} : ∀ {l : Objs}, limO l = true → ∀ i, (memOf t l).get i = (match lookO i l with
    | some o => some o
    | none => t.get i)
  | [], _, i => rfl
  | p :: r, h, i => by
    have h : ite2 (Nat.blt p.1 lim) (limO r) false = true := h
    rw [ite2_eq] at h
    split at h
    · rename_i hp
      show (Tr.put dep p.1 _ (memOf t r)).get i = _
      rw [get_put _ _ _ _ (nblt hp), lookO_cons]
      split
      · rfl
      · exact memOf_get h i
    · cases h
theorem delOf_get {t : Tr AObj} : ∀ {l : Objs}, limO l = true → ∀ i, (delOf t l).get i = (match lookO i l with
    | some o => none
    | none => t.get i)
  | [], _, i => rfl
  | p :: r, h, i => by
    have h : ite2 (Nat.blt p.1 lim) (limO r) false = true := h
    rw [ite2_eq] at h
    split at h
    · rename_i hp
      show (Tr.put dep p.1 _ (delOf t r)).get i = _
      rw [get_put _ _ _ _ (nblt hp), lookO_cons]
      split
      · rfl
      · exact delOf_get h i
    · cases h
theorem hasO_look {H : Tr AObj} : ∀ {l : Objs}, hasO H l = true → ∀ {i : Nat} {o : AObj}, lookO i l = some o → H.get i = some o
  | [], _, i, o, h => by cases h
  | p :: r, hh, i, o, h => by
    have hh : ite2 (hasG (H.get p.1) p.2) (hasO H r) false = true := hh
    rw [ite2_eq] at hh
    split at hh
    · rename_i hp
      rw [lookO_cons] at h
      split at h
      · rename_i hi
        subst hi
        cases h
        cases hg : H.get p.1 with
        | none => rw [hg] at hp; cases hp
        | some o => rw [hg] at hp; rw [objEq_eq hp]
      · exact hasO_look hh h
    · cases hh
theorem roO_look {outs : Objs} : ∀ {l : Objs}, roO outs l = true → ∀ {i : Nat} {c : List AV}, lookO i l = some (.cells true c) → lookO i outs = some (.cells true c)
  | [], _, i, o, h => by cases h
  | p :: r, hh, i, c, h => by
    have hh : ite2 (ite2 (isRo p.2) (hasG (lookO p.1 outs) p.2) true) (roO outs r) false = true := hh
    rw [ite2_eq] at hh
    split at hh
    · rename_i hp
      rw [lookO_cons] at h
      split at h
      · rename_i hi
        subst hi
        have h : p.2 = .cells true c := Option.some.inj h
        rw [h, show isRo (.cells true c) = true from rfl, ite2_eq, if_pos rfl] at hp
        cases hg : lookO p.1 outs with
        | none => rw [hg] at hp; cases hp
        | some o => rw [hg] at hp; rw [objEq_eq hp]
      · exact roO_look hh h
    · cases hh
section
variable (ω : Bool → Int)
theorem eff_ok (hω : ω true ≠ ω false) {M : Memo} (hM : MemoOk ω M) {E : Eff} (hE : StandsE M E) {f : Nat} {args : List AV} {H : Hp} (hit : hitE E f args H = true) {F : Fence} {n : Nat} (hW : Wd F) {φ : Phi} {w : World} {L : List Value} (h : Rel ω φ H w) (hL : concL ω φ args = some L) :
    CallsIn F n PP f L.toArray w fun e w' => ∃ φ' x, e = .returned x ∧ conc ω φ' E.r = some x ∧ Rel ω φ' (E.left H) w' ∧ Post φ H w φ' (E.left H) w' := by
  unfold hitE at hit
  rw [ite2_eq] at hit
  split at hit
  · rename_i hf
    rw [nbeqI] at hf
    subst hf
    rw [ite2_eq] at hit
    split at hit
    · rename_i hnx
      rw [nbeqI] at hnx
      rw [ite2_eq] at hit
      split at hit
      · rename_i ha
        have := beqL_eq _ _ ha
        subst this
        have hin : ∀ i o, lookO i E.ins = some o → H.t.get i = some o := fun i o hi => hasO_look hit hi
        have hcg : ∀ i, E.mem.t.get i = lookO i E.ins := fun i => by
          show (memOf .nil E.ins).get i = _
          rw [memOf_get hE.insL]
          cases lookO i E.ins <;> rfl
        have hrel : Rel ω φ E.mem w := by
          refine ⟨fun id hid => h.fresh id (by rw [hnx]; exact hid), h.g0, fun i o hi => ?_, fun i j oi oj ei ej hi hj hei hej hbl => ?_⟩
          · rw [hcg] at hi
            exact h.obj i o (hin i o hi)
          · rw [hcg] at hi hj
            exact h.inj i j oi oj ei ej (hin _ _ hi) (hin _ _ hj) hei hej hbl
        obtain ⟨m, hm⟩ := hE.run
        cases hr : callF (exec M m) E.f E.args E.mem with
        | none => rw [hr] at hm; cases hm
        | some q =>
          obtain ⟨x0, H2⟩ := q
          rw [hr] at hm
          have hm : ((AV.beq x0 E.r && Nat.beq H2.nx E.nx') && hasO H2.t E.outs) = true := hm
          simp only [Bool.and_eq_true, nbeqI] at hm
          obtain ⟨⟨hx0, hnx2⟩, hout⟩ := hm
          have := beq_eq _ _ hx0
          subst this
          refine (fn_ok ω (exec_sound ω hω hM m) hr hW hrel hL).mono fun e w' ⟨φ', y, he, hy, hrel', hp⟩ => ⟨φ', y, he, hy, ?_⟩
          have hext := hp.ext ω hrel
          have hget : ∀ i o, (E.left H).t.get i = some o → (lookO i E.outs = some o ∧ H2.t.get i = some o) ∨ (lookO i E.ins = none ∧ H.t.get i = some o) := fun i o hi => by
            have hi : (memOf (delOf H.t E.ins) E.outs).get i = some o := hi
            rw [memOf_get hE.outsL] at hi
            cases ho : lookO i E.outs with
            | some o' =>
              rw [ho] at hi
              cases hi
              exact .inl ⟨rfl, hasO_look hout ho⟩
            | none =>
              rw [ho] at hi
              simp only at hi
              rw [delOf_get hE.insL] at hi
              cases hii : lookO i E.ins with
              | some o' => rw [hii] at hi; cases hi
              | none => rw [hii] at hi; exact .inr ⟨rfl, hi⟩
          -- what is not among the handed in stays
          have hnot : ∀ i o ei, lookO i E.ins = none → H.t.get i = some o → φ i = some ei → ¬ Alive φ E.mem ei.blk := fun i o ei hi ho hei ⟨j, oj, ej, h1, h2, h3⟩ => by
            rw [hcg] at h1
            have := h.inj j i oj o ej ei (hin _ _ h1) ho h2 hei h3
            subst this
            rw [hi] at h1
            cases h1
          have hlt : ∀ i o ei, H.t.get i = some o → φ i = some ei → ei.blk < w.heap.size ∧ i < H.nx := fun i o ei ho hei => by
            obtain ⟨e', g1, _, g3⟩ := h.obj i o ho
            rw [hei] at g1
            cases g1
            refine ⟨ObjOk.lt ω g3, Nat.lt_of_not_le fun hle => ?_⟩
            rw [h.fresh i hle] at hei
            cases hei
          have hrest : ∀ i o, lookO i E.ins = none → H.t.get i = some o → ∃ ei, φ i = some ei ∧ φ' i = some ei ∧ i < lim ∧ ei.blk < w.heap.size ∧ ObjOk ω φ' w' ei o ∧ ¬ Alive φ E.mem ei.blk := fun i o hi ho => by
            obtain ⟨ei, g1, g2, g3⟩ := h.obj i o ho
            obtain ⟨k1, k2⟩ := hlt i o ei ho g1
            have k3 := hnot i o ei hi ho g1
            exact ⟨ei, g1, by rw [hp.dom i (by show i < E.nx; rw [← hnx]; exact k2)]; exact g1, g2, k1, ObjOk.mono ω hext (hp.kept _ k1 k3) g3, k3⟩
          have hnew : ∀ c, Alive φ' (E.left H) c → c < w.heap.size → Alive φ H c := fun c ⟨i, oi, ei, h1, h2, h3⟩ hc => by
            rcases hget i oi h1 with ⟨_, g⟩ | ⟨g1, g2⟩
            · obtain ⟨j, oj, ej, k1, k2, k3⟩ := hp.new c ⟨i, oi, ei, g, h2, h3⟩ hc
              rw [hcg] at k1
              exact ⟨j, oj, ej, hin _ _ k1, k2, k3⟩
            · obtain ⟨e', m1, m2, _⟩ := hrest i oi g1 g2
              rw [h2] at m2
              cases m2
              exact ⟨i, oi, ei, g2, m1, h3⟩
          refine ⟨⟨fun id hid => hrel'.fresh id (by rw [hnx2]; exact hid), hrel'.g0, fun i o hi => ?_, fun i j oi oj ei ej hi hj hei hej hbl => ?_⟩, ⟨fun id hid => hp.dom id (by rw [hnx] at hid; exact hid), ?_, hp.size, fun i o hi hid => ?_, hnew, fun c hc hna => hp.kept c hc fun ⟨i, oi, ei, k1, k2, k3⟩ => hna ⟨i, oi, ei, by rw [hcg] at k1; exact hin _ _ k1, k2, k3⟩, fun i l e hid hi he => ?_, hp.os⟩⟩
          · rcases hget i o hi with ⟨_, g⟩ | ⟨g1, g2⟩
            · exact hrel'.obj i o g
            · obtain ⟨ei, m1, m2, m3, m4, m5, _⟩ := hrest i o g1 g2
              exact ⟨ei, m2, m3, m5⟩
          · rcases hget i oi hi with ⟨_, g⟩ | ⟨g1, g2⟩
            · rcases hget j oj hj with ⟨_, k⟩ | ⟨k1, k2⟩
              · exact hrel'.inj i j oi oj ei ej g k hei hej hbl
              · obtain ⟨e', m1, m2, m3, m4, m5, m6⟩ := hrest j oj k1 k2
                rw [hej] at m2
                cases m2
                exact absurd (hp.new _ ⟨i, oi, ei, g, hei, hbl⟩ m4) m6
            · obtain ⟨e', m1, m2, m3, m4, m5, m6⟩ := hrest i oi g1 g2
              rw [hei] at m2
              cases m2
              rcases hget j oj hj with ⟨_, k⟩ | ⟨k1, k2⟩
              · exact absurd (hp.new _ ⟨j, oj, ej, k, hej, hbl.symm⟩ m4) m6
              · obtain ⟨e'', n1, n2, _⟩ := hrest j oj k1 k2
                rw [hej] at n2
                cases n2
                exact h.inj i j oi oj ei ej g2 k2 m1 n1 hbl
          · show H.nx ≤ E.nx'
            rw [hnx, ← hnx2]
            exact hp.nx
          · rcases hget i o hi with ⟨_, g⟩ | ⟨g1, g2⟩
            · obtain ⟨o0, h0⟩ := hp.ids i o g (by rw [hnx] at hid; exact hid)
              rw [hcg] at h0
              exact ⟨o0, hin _ _ h0⟩
            · exact ⟨o, g2⟩
          · have hid2 : i < E.mem.nx := by rw [hnx] at hid; exact hid
            cases hii : lookO i E.ins with
            | some o =>
              have := hin i o hii
              rw [hi] at this
              cases this
              have hoo := roO_look hE.ro hii
              refine ⟨?_, (hp.ro i l e hid2 (by rw [hcg]; exact hii) he).2⟩
              show (memOf (delOf H.t E.ins) E.outs).get i = _
              rw [memOf_get hE.outsL, hoo]
            | none =>
              have hoo : lookO i E.outs = none := by
                cases ho : lookO i E.outs with
                | none => rfl
                | some o =>
                  obtain ⟨o0, h0⟩ := hp.ids i o (hasO_look hout ho) hid2
                  rw [hcg, hii] at h0
                  cases h0
              refine ⟨?_, hp.kept _ (hlt i _ e hi he).1 (hnot i _ e hii hi he)⟩
              show (memOf (delOf H.t E.ins) E.outs).get i = _
              rw [memOf_get hE.outsL, hoo]
              simp only
              rw [delOf_get hE.insL, hii]
              exact hi
      · cases hit
    · cases hit
  · cases hit
theorem memoE_ok (hω : ω true ≠ ω false) {M0 M : Memo} (hM0 : MemoOk ω M0) (hM : MemoOk ω M) : ∀ {l : List Eff}, (∀ E ∈ l, StandsE M0 E) → MemoOk ω (memoE M l)
  | [], _ => hM
  | E :: l, hl => fun f args H r H' h F n hW φ w L hr hL => by
    have h : ite2 (hitE E f args H) (some (E.r, E.left H)) (memoE M l f args H) = some (r, H') := h
    rw [ite2_eq] at h
    split at h
    · rename_i hit
      cases h
      exact eff_ok ω hω hM0 (hl E List.mem_cons_self) hit hW hr hL
    · exact memoE_ok hω hM0 hM (fun K' hK' => hl K' (List.mem_cons_of_mem _ hK')) f args H r H' h F n hW φ w L hr hL
theorem pur_ok (hω : ω true ≠ ω false) {M : Memo} (hM : MemoOk ω M) {E : Pur} (hE : StandsP M E) {f : Nat} {args : List AV} {H : Hp} (hit : hitP E f args H = true) {F : Fence} {n : Nat} (hW : Wd F) {φ : Phi} {w : World} {L : List Value} (h : Rel ω φ H w) (hL : concL ω φ args = some L) :
    CallsIn F n PP f L.toArray w fun e w' => ∃ φ' x, e = .returned x ∧ conc ω φ' E.r = some x ∧ Rel ω φ' H w' ∧ Post φ H w φ' H w' := by
  unfold hitP at hit
  rw [ite2_eq] at hit
  split at hit
  · rename_i hf
    rw [nbeqI] at hf
    subst hf
    rw [ite2_eq] at hit
    split at hit
    · rename_i hnx
      rw [nbeqI] at hnx
      rw [ite2_eq] at hit
      split at hit
      · rename_i ha
        have := beqL_eq _ _ ha
        subst this
        have hcg : ∀ i, E.mem.t.get i = lookO i (roRows E.ins) := fun i => by
          show (memOf .nil (roRows E.ins)).get i = _
          rw [memOf_get hE.insL]
          cases lookO i (roRows E.ins) <;> rfl
        have hrel : Rel ω φ E.mem w := by
          refine ⟨fun id hid => h.fresh id (by rw [hnx]; exact hid), h.g0, fun i o hi => ?_, fun i j oi oj ei ej hi hj hei hej hbl => ?_⟩
          · rw [hcg] at hi
            obtain ⟨b, c, g1, rfl⟩ := hasR_look hit hi
            obtain ⟨e, e1, e2, arr, el, fz, m1, m2, m3, m4, m5⟩ := h.obj i _ g1
            exact ⟨e, e1, e2, arr, el, fz, m1, fun h => (by cases h), m3, m4, m5⟩
          · rw [hcg] at hi hj
            obtain ⟨b, c, g1, _⟩ := hasR_look hit hi
            obtain ⟨b', c', g1', _⟩ := hasR_look hit hj
            exact h.inj i j _ _ ei ej g1 g1' hei hej hbl
        obtain ⟨m, hm⟩ := hE.run
        obtain ⟨H', hrun⟩ := okR_some hm
        refine (fn_ok ω (exec_sound ω hω hM m) hrun hW hrel hL).mono fun e w' ⟨φ', y, he, hy, hrel', hp⟩ => ?_
        have hsame := hp.same ω hrel fun i o hi => by
          rw [hcg] at hi
          obtain ⟨b, c, g1, rfl⟩ := hasR_look hit hi
          exact ⟨hE.nx i _ hi, c, rfl⟩
        exact ⟨φ, y, he, (flat_conc ω φ φ' hE.r).trans hy, h.grow ω hsame, Post.none ω h hp hsame⟩
      · cases hit
    · cases hit
  · cases hit
theorem memoP_ok (hω : ω true ≠ ω false) {M0 M : Memo} (hM0 : MemoOk ω M0) (hM : MemoOk ω M) : ∀ {l : List Pur}, (∀ E ∈ l, StandsP M0 E) → MemoOk ω (memoP M l)
  | [], _ => hM
  | E :: l, hl => fun f args H r H' h F n hW φ w L hr hL => by
    have h : ite2 (hitP E f args H) (some (E.r, H)) (memoP M l f args H) = some (r, H') := h
    rw [ite2_eq] at h
    split at h
    · rename_i hit
      cases h
      exact pur_ok ω hω hM0 (hl E List.mem_cons_self) hit hW hr hL
    · exact memoP_ok hω hM0 hM (fun K' hK' => hl K' (List.mem_cons_of_mem _ hK')) f args H r H' h F n hW φ w L hr hL
end
end Go.Proofs.YtenadfoomejmkaaGreatDoor.Eng
