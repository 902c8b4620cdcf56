import Derived.Test.YtenadfoomejmkaaGreatDoorSndP
/- The engine's soundness, seventeenth part: a function called; a round of a loop over a function. -/
namespace Go.Proofs.YtenadfoomejmkaaGreatDoor.Eng
open Go
set_option linter.unusedSimpArgs false
set_option linter.unusedVariables false
section
variable (ω : Bool → Int) (hω : ω true ≠ ω false)
theorem slotP_get {d : Nat} {v : AV} {T : Fr} (hd : d < lim) (t : Nat) : slot t (slotP d v T) = if t = d then some v else slot t T := by
  obtain ⟨k, l, g⟩ := T
  have hs : ∀ (l' : List (Nat × AV)) (g' : Tr AV), slot t ⟨k, l', g'⟩ = if bitN k t = true then g'.get t else look t l' := fun l' g' => by
    show (Bool.rec (motive := fun _ => Option AV) (look t l') (g'.get t) (bitN k t) : Option AV) = _
    rw [brec]
  have hl : ∀ l', look t ((d, v) :: l') = if t = d then some v else look t l' := fun l' => by
    show (Bool.rec (motive := fun _ => Option AV) (look t l') (some v) (Nat.beq d t) : Option AV) = _
    rw [brec]
    simp only [nbeqI]
    by_cases h : t = d
    · rw [if_pos h, if_pos h.symm]
    · rw [if_neg h, if_neg (Ne.symm h)]
  have hp : slotP d v ⟨k, l, g⟩ = if bitN k d = true then ⟨k, l, Tr.put dep d (some v) g⟩ else ⟨k, (d, v) :: l, g⟩ := by
    show (Bool.rec (motive := fun _ => Fr) ⟨k, (d, v) :: l, g⟩ ⟨k, l, Tr.put dep d (some v) g⟩ (bitN k d) : Fr) = _
    rw [brec]
  rw [hp]
  split
  · rename_i hk
    rw [hs, hs, get_put _ _ _ _ hd]
    by_cases h : t = d
    · subst h; rw [if_pos hk, if_pos rfl, if_pos rfl]
    · rw [if_neg h, if_neg h]
  · rename_i hk
    rw [hs, hs, hl]
    by_cases h : t = d
    · subst h; rw [if_neg hk, if_pos rfl, if_pos rfl]
    · rw [if_neg h, if_neg h]
theorem slotE_get {T : Fr} {t : Nat} {v : AV} (h : slot t (slotE T) = some v) : slot t T = some v := by
  obtain ⟨k, l, g⟩ := T
  have h : (Bool.rec (motive := fun _ => Option AV) (look t []) (g.get t) (bitN k t) : Option AV) = some v := h
  show (Bool.rec (motive := fun _ => Option AV) (look t l) (g.get t) (bitN k t) : Option AV) = some v
  rw [brec] at h ⊢
  split at h
  · rw [if_pos ‹_›]; exact h
  · cases h
theorem TRel.put {φ : Phi} {T : Fr} {n : Nat} {tmps : Array Value} (h : TRel ω φ T n tmps) {d : Nat} {v : AV} {x : Value} (hd : d < n) (hx : conc ω φ v = some x) : TRel ω φ (slotP d v T) n (tmps.setIfInBounds d x) := by
  refine ⟨fun t u hu => ?_, by simp [h.size], h.lim⟩
  rw [slotP_get (Nat.lt_of_lt_of_le hd h.lim)] at hu
  split at hu
  · rename_i he
    subst he
    cases hu
    rw [hx]
    simp [Array.getD_eq_getD_getElem?, h.size, hd]
  · rename_i he
    rw [h.slot t u hu]
    simp only [Array.getD_eq_getD_getElem?]
    rw [Array.getElem?_setIfInBounds_ne (Ne.symm he)]
theorem putL_ok {φ : Phi} {n : Nat} {tmps : Array Value} (hs : tmps.size = n) (hlim : n ≤ lim) : ∀ {args : List AV} {L : List Value} {i : Nat} {T : Fr}, concL ω φ args = some L → (∀ j x, L[j]? = some x → tmps.getD (i + j) undef = x) → i + args.length ≤ n → TRel ω φ T n tmps → TRel ω φ (putL args i T) n tmps
  | [], L, i, T, _, _, _, hT => hT
  | v :: args, L, i, T, hL, hj, hle, hT => by
    obtain ⟨y, l, hy, hl, rfl⟩ := concL_cons ω hL
    have h0 := hj 0 y rfl
    simp only [List.length_cons] at hle
    refine putL_ok hs hlim (T := slotP i v T) hl (fun j x hx => by have := hj (j + 1) x hx; rw [show Nat.add i 1 + j = i + (j + 1) from by show i + 1 + j = _; omega]; exact this) (by show i + 1 + args.length ≤ n; omega) ⟨fun t u hu => ?_, hs, hlim⟩
    rw [slotP_get (by omega)] at hu
    split at hu
    · rename_i he
      subst he
      cases hu
      rw [hy]
      simpa using h0.symm
    · exact hT.slot t u hu
/-- a function's call -/
theorem fn_ok {run : Run} (hrun : RunOk ω run) {f : Nat} {args : List AV} {H H' : Hp} {r : AV} (hc : callF run f args H = some (r, H')) {F : Fence} {n : Nat} (hW : Wd F) {φ : Phi} {w : World} {L : List Value} (h : Rel ω φ H w) (hL : concL ω φ args = some L) :
    CallsIn F n PP f L.toArray w fun e w' => ∃ φ' x, e = .returned x ∧ conc ω φ' r = some x ∧ Rel ω φ' H' w' ∧ Post φ H w φ' H' w' := by
  obtain ⟨i, hi, hc⟩ := ob_some hc
  cases hmemo : run.memo f args H with
  | some rr =>
    rw [hmemo] at hc
    have hc : some rr = some (r, H') := hc
    rw [hc] at hmemo
    exact hrun.memo f args H r H' hmemo F n hW φ w L h hL
  | none =>
  rw [hmemo] at hc
  obtain ⟨hle, hc⟩ := ch_some (show ch _ _ = some (r, H') from hc)
  obtain ⟨q, hq, hc⟩ := ob_some hc
  rw [ite2_eq] at hc
  split at hc
  · cases hc
  · rename_i hex
    obtain ⟨h', hcl, hc⟩ := ob_some hc
    obtain ⟨l, hl, hc⟩ := ob_some hc
    cases hc
    obtain ⟨fn, hf, hb, hn, hres, _⟩ := fnT_get hi
    simp only [Bool.and_eq_true] at hle
    have hle1 := nble hle.1
    have hle2 := nble hle.2
    have hlen := concL_length ω hL
    have hsz : (L.toArray ++ Array.replicate (fn.ntmps - L.toArray.size) undef).size = i.ntmps := by simp [hn]; omega
    have hcall : CallsIn F.plain n PP f L.toArray w fun e w' => ∃ φ' x, e = .returned x ∧ conc ω φ' (resV l) = some x ∧ Rel ω φ' ⟨h', q.2.H.nx⟩ w' ∧ Post φ H w φ' ⟨h', q.2.H.nx⟩ w' := by
      refine callsIn_of_wp_marks hf hb (hW.fn f) ?_ rfl
      refine hrun.use ω hq hW.plain (fun _ => rfl) (φ := φ) ?_ fun φ' a' w' hs hp => ?_
      refine ⟨putL_ok ω hsz hle2 hL (fun j x hx => ?_) (by omega) ⟨fun t v hv => ?_, hsz, hle2⟩, h, trivial⟩
      · have := (List.getElem?_eq_some_iff.1 hx).1
        simp only [Nat.zero_add, Array.getD_eq_getD_getElem?]
        rw [Array.getElem?_append_left (by simpa using this)]
        simp [hx]
      · have hv : (Bool.rec (motive := fun _ => Option AV) (look t []) ((Tr.nil : Tr AV).get t) (bitN i.keep t) : Option AV) = some v := hv
        rw [brec] at hv
        split at hv <;> cases hv
      · have hl' : resA q.2.T h' fn.results.toList = some l := by rw [hres]; exact hl
        have hgo : LeavesInM F.plain n PP fn a'.tmps (fun e w' => ∃ φ' x, e = .returned x ∧ conc ω φ' (resV l) = some x ∧ Rel ω φ' ⟨h', q.2.H.nx⟩ w' ∧ Post φ H w φ' ⟨h', q.2.H.nx⟩ w') a'.defers .returning w' :=
          leave_ok ω hs.M hcl hs.H hs.T hl' fun x w2 hx hr2 hp2 => ⟨φ', x, rfl, hx, hr2, hp.trans hp2⟩
        cases hqe : q.1 with
        | nrm => exact hgo
        | ret => exact hgo
        | exit j => rw [hqe] at hex; exact absurd rfl hex
    exact hcall
theorem getL_some {H : Tr AObj} {id : Nat} {p : Lp} (h : getL H id = some p) : H.get id = some (.loop p.st p.pe p.fn p.n p.T p.ps p.asg p.body) := by
  obtain ⟨o, ho, h⟩ := ob_some h
  cases o with
  | loop => cases h; exact ho
  | cells => cases h
  | map => cases h
  | dfr => cases h
theorem pairs_ok {φ : Phi} {n : Nat} : ∀ {ps : List Nat} {l : List AV} {L : List Value} {T T' : Fr} {tmps : Array Value}, pairs n ps l T = some T' → concL ω φ l = some L → TRel ω φ T n tmps → TRel ω φ T' n ((ps.zip L).foldl (fun tmps (t, a) => tmps.setIfInBounds t a) tmps) ∧ L.length = ps.length
  | [], [], L, T, T', tmps, h, hL, hT => by
    cases h
    rw [concL_nil ω hL]
    exact ⟨hT, rfl⟩
  | p :: ps, a :: l, L, T, T', tmps, h, hL, hT => by
    obtain ⟨hlt, h⟩ := ch_some (show ch _ _ = some T' from h)
    obtain ⟨y, l', hy, hl, rfl⟩ := concL_cons ω hL
    obtain ⟨h1, h2⟩ := pairs_ok h hl (hT.put ω (nblt hlt) hy)
    exact ⟨h1, by simp [h2]⟩
  | [], _ :: _, _, _, _, _, h, _, _ => by cases h
  | _ :: _, [], _, _, _, _, h, _, _ => by cases h
/-- a round -/
theorem round_ok {run : Run} (hrun : RunOk ω run) {l : Nat} {args : List AV} {H H' : Hp} {r : AV} (hc : yieldA run l args H = some (r, H')) {F : Fence} {n : Nat} (hW : Wd F) {φ : Phi} {w : World} {L : List Value} (h : Rel ω φ H w) (hL : concL ω φ args = some L) :
    ∃ e f tmps asg body, φ l = some e ∧ (Instr.yield e.blk L.toArray).run PP w = .ok (.round e.blk f tmps asg body) w ∧
    RoundIn F n PP e.blk f tmps asg body w fun e w' => ∃ φ' x, e = .returned x ∧ conc ω φ' r = some x ∧ Rel ω φ' H' w' ∧ Post φ H w φ' H' w' := by
  obtain ⟨p, hp, hc⟩ := ob_some hc
  obtain ⟨T, hT, hc⟩ := ob_some hc
  obtain ⟨q, hq, hc⟩ := ob_some hc
  obtain ⟨hn, hc⟩ := ch_some hc
  obtain ⟨q2, hq2, hc⟩ := ob_some hc
  obtain ⟨hready, hc⟩ := ch_some hc
  obtain ⟨u, hu, hc⟩ := ob_some hc
  obtain ⟨z, hz, hc⟩ := ob_some hc
  cases hc
  obtain ⟨e, he, hlim, fn', tmps, d, hb, hTR⟩ := h.obj l _ (getL_some hp)
  obtain ⟨hTR2, hln⟩ := pairs_ok ω hT hL hTR
  refine ⟨e, fn', (p.ps.toArray.zip L.toArray).foldl (fun tmps (t, a) => tmps.setIfInBounds t a) tmps, p.asg, p.body, he, ?_, ?_⟩
  · have hg : (getObj e.blk).run PP w = .ok _ w := run_getObj_loop hb
    simp only [Instr.yield, Instr.getLoop, Sem.run_bind, hg, Result.andThen_ok, Sem.run_pure]
    rw [if_neg (by simp [hln])]
    simp only [Sem.run_pure]
  · refine roundIn_of_wpIn (hW.fn _) ?_
    have hz1 : (p.ps.toArray.zip L.toArray).foldl (fun tmps (t, a) => tmps.setIfInBounds t a) tmps = (p.ps.zip L).foldl (fun tmps (t, a) => tmps.setIfInBounds t a) tmps := by
      rw [← Array.foldl_toList]
      simp
    refine hrun.use ω hq (hW.inRound _) (fun h => by cases h) (φ := φ) ?_ fun φ1 a1 w1 hs1 hp1 => ?_
    · exact ⟨by rw [hz1]; exact hTR2, h, trivial⟩
    have hq1 : q.1 = .nrm := by
      cases hqe : q.1 <;> rw [hqe] at hn <;> first | rfl | cases hn
    rw [hq1]
    -- the record is set busy
    obtain ⟨e1, he1, hlim1, fn1, tmps1, d1, hb1, hTR1⟩ := hs1.H.obj l _ (getL_some hq2)
    have he1e : e1 = e := by
      have := hp1.ext ω h l e he
      rw [he1] at this
      cases this
      rfl
    subst he1e
    have hst : q2.st = .ready := by
      cases hqs : q2.st <;> rw [hqs] at hready <;> first | rfl | cases hready
    have hlt1 := (Array.getElem?_eq_some_iff.1 hb1).1
    refine ⟨w1.putObj e1.blk (.loop { state := .busy, pending := q2.pe, fn := fn1, tmps := tmps1, params := q2.ps.toArray, assign := q2.asg, body := q2.body, defers := d1 }), ?_, ?_⟩
    · have hg : (getObj e1.blk).run PP w1 = .ok _ w1 := run_getObj_loop hb1
      simp only [Instr.beginRound, Instr.getLoop, Sem.run_bind, hg, Result.andThen_ok, Sem.run_pure, run_setObj_loop _ hb1, hst]
    · obtain ⟨hr2, hp2⟩ := hs1.H.change ω (w' := w1.putObj e1.blk (.loop { state := .busy, pending := q2.pe, fn := fn1, tmps := tmps1, params := q2.ps.toArray, assign := q2.asg, body := q2.body, defers := d1 })) (o := .loop .busy q2.pe q2.fn q2.n q2.T q2.ps q2.asg q2.body) (getL_some hq2) he1 (by simp [World.putObj]) (fun b hb => World.putObj_heap_other hb) ⟨fn1, tmps1, d1, World.putObj_heap_same hlt1, hTR1⟩
      refine hrun.use ω hu (hW.inRound _) (fun h => by cases h) (φ := φ1) ?_ fun φ3 a3 w3 hs3 hp3 => ?_
      · exact ⟨hs1.T, hr2, hs1.M⟩
      obtain ⟨e3, he3, hlim3, fn3, tmps3, d3, hb3, hTR3⟩ := hs3.H.obj l _ (getL_some hz)
      have he3e : e3 = e1 := by
        have := hp3.ext ω hr2 l e1 he1
        rw [he3] at this
        cases this
        rfl
      subst he3e
      have hlt3 := (Array.getElem?_eq_some_iff.1 hb3).1
      have hend : ∀ jump : Option Code, (Instr.endRound e3.blk jump).run PP w3 = .ok (.bool jump.isNone) (w3.putObj e3.blk (.loop { state := if jump.isNone then .ready else .done, pending := jump, fn := fn3, tmps := tmps3, params := z.ps.toArray, assign := z.asg, body := z.body, defers := d3 })) := fun jump => by
        have hg : (getObj e3.blk).run PP w3 = .ok _ w3 := run_getObj_loop hb3
        simp only [Instr.endRound, Instr.getLoop, Sem.run_bind, hg, Result.andThen_ok, Sem.run_pure, run_setObj_loop _ hb3]
      have hfin : ∀ (jump : Option Code) (s : LoopState), s = (if jump.isNone then LoopState.ready else .done) → ∃ v w', (Instr.endRound e3.blk jump).run PP w3 = .ok v w' ∧ ∃ φ' x, Ending.returned v = .returned x ∧ conc ω φ' (AV.bool jump.isNone) = some x ∧ Rel ω φ' ⟨Tr.put dep l (some (.loop s jump z.fn z.n z.T z.ps z.asg z.body)) u.2.H.t, u.2.H.nx⟩ w' ∧ Post φ H w φ' ⟨Tr.put dep l (some (.loop s jump z.fn z.n z.T z.ps z.asg z.body)) u.2.H.t, u.2.H.nx⟩ w' := fun jump s hs => by
        subst hs
        obtain ⟨hr4, hp4⟩ := hs3.H.change ω (w' := w3.putObj e3.blk (.loop { state := if jump.isNone then .ready else .done, pending := jump, fn := fn3, tmps := tmps3, params := z.ps.toArray, assign := z.asg, body := z.body, defers := d3 })) (o := .loop (if jump.isNone then .ready else .done) jump z.fn z.n z.T z.ps z.asg z.body) (getL_some hz) he3 (by simp [World.putObj]) (fun b hb => World.putObj_heap_other hb) ⟨fn3, tmps3, d3, World.putObj_heap_same hlt3, hTR3⟩
        exact ⟨_, _, hend jump, φ3, _, rfl, rfl, hr4, hp1.trans (hp2.trans (hp3.trans hp4))⟩
      cases hue : u.1 with
      | nrm => exact hfin none .ready rfl
      | ret => exact hfin (some .ret) .done rfl
      | exit j => exact hfin (some (.exit j)) .done rfl
end
end Go.Proofs.YtenadfoomejmkaaGreatDoor.Eng
