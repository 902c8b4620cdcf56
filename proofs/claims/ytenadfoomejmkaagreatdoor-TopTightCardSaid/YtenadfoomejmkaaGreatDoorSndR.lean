import Derived.Test.YtenadfoomejmkaaGreatDoorSndQ
/- The engine's soundness, eighteenth part: loud operations. -/
namespace Go.Proofs.YtenadfoomejmkaaGreatDoor.Eng
open Go
set_option linter.unusedSimpArgs false
set_option linter.unusedVariables false
set_option linter.unusedSectionVars false
section
variable (ω : Bool → Int) (hω : ω true ≠ ω false)
/-- what a method's row is, run -/
theorem meth_plain {t : TypeId} {I : TypeInfo} {m : Method} {name : String} {f : FuncId} {d : TypeDesc} (hI : PP.info? t = some I) (hm : I.methods.find? (·.name == name) = some m) (hp : m.path.toList = []) (hf : m.func = some (f, false)) (hd : PP.underlying t = some d) (hnp : ∀ e, d ≠ .pointer e) (k : Nat) (v : Value) (w : World) :
    (method (k + 1) t v name).run PP w = .ok (f, v) w := by
  have hi : ∀ w, (typeInfo t).run PP w = .ok I w := fun w => by simp [typeInfo, hI]
  simp only [method, Sem.run_bind, hi, Result.andThen_ok, hm, hp, follow, Sem.run_pure, hf, receiverAt, run_underlying hd]
  cases d <;> first | exact absurd rfl (hnp _) | rfl
theorem methT_cases {t : Nat} {name : String} {r : Option (Nat × Nat) × Nat} (h : methT t name = some r) :
    (name = "porthole/task.step" ∧ ((t = 272 ∧ r = (none, 259)) ∨ (t = 276 ∧ r = (none, 260)) ∨ (t = 280 ∧ r = (none, 262)) ∨ (t = 284 ∧ r = (none, 266)))) ∨
    (name = "porthole/task.number" ∧ ((t = 272 ∧ r = (some (0, 0), 258)) ∨ (t = 276 ∧ r = (some (0, 0), 258)) ∨ (t = 280 ∧ r = (some (0, 0), 258)) ∨ (t = 284 ∧ r = (none, 265)))) := by
  unfold methT at h
  cases h1 : name == "porthole/task.step" with
  | true =>
    rw [h1] at h
    left
    refine ⟨by simpa using h1, ?_⟩
    simp only [cond_true] at h
    cases h2 : Nat.beq t 272 <;> rw [h2] at h <;> simp only [cond_true, cond_false] at h
    · cases h3 : Nat.beq t 276 <;> rw [h3] at h <;> simp only [cond_true, cond_false] at h
      · cases h4 : Nat.beq t 280 <;> rw [h4] at h <;> simp only [cond_true, cond_false] at h
        · cases h5 : Nat.beq t 284 <;> rw [h5] at h <;> simp only [cond_true, cond_false] at h
          · cases h
          · cases h; exact .inr (.inr (.inr ⟨nbeq h5, rfl⟩))
        · cases h; exact .inr (.inr (.inl ⟨nbeq h4, rfl⟩))
      · cases h; exact .inr (.inl ⟨nbeq h3, rfl⟩)
    · cases h; exact .inl ⟨nbeq h2, rfl⟩
  | false =>
    rw [h1] at h
    simp only [cond_false] at h
    cases h0 : name == "porthole/task.number" with
    | false => rw [h0] at h; cases h
    | true =>
      rw [h0] at h
      right
      refine ⟨by simpa using h0, ?_⟩
      simp only [cond_true] at h
      cases h2 : Nat.beq t 272 <;> rw [h2] at h <;> simp only [cond_true, cond_false] at h
      · cases h3 : Nat.beq t 276 <;> rw [h3] at h <;> simp only [cond_true, cond_false] at h
        · cases h4 : Nat.beq t 280 <;> rw [h4] at h <;> simp only [cond_true, cond_false] at h
          · cases h5 : Nat.beq t 284 <;> rw [h5] at h <;> simp only [cond_true, cond_false] at h
            · cases h
            · cases h; exact .inr (.inr (.inr ⟨nbeq h5, rfl⟩))
          · cases h; exact .inr (.inr (.inl ⟨nbeq h4, rfl⟩))
        · cases h; exact .inr (.inl ⟨nbeq h3, rfl⟩)
      · cases h; exact .inl ⟨nbeq h2, rfl⟩
theorem meth_path {t : TypeId} {I : TypeInfo} {m : Method} {name : String} {f : FuncId} {fs : Array Field} {F : Field} (hI : PP.info? t = some I) (hm : I.methods.find? (·.name == name) = some m) (hp : m.path.toList = [⟨t, 0, false⟩]) (hf : m.func = some (f, false)) (hd : PP.underlying t = some (.struct fs)) (hF : fs[0]? = some F) (hFt : F.type = 270) (hFo : F.offset = 0) (k : Nat) (cs : Array Value) (w : World) :
    (method (k + 1) t (.agg cs) name).run PP w = .ok (f, .agg (cs.extract 0 0)) w := by
  have hi : ∀ w, (typeInfo t).run PP w = .ok I w := fun w => by simp [typeInfo, hI]
  have hu : ∃ g, PP.underlying 270 = some (.struct g) := ⟨_, Tryz.underlying270⟩
  obtain ⟨g, hu⟩ := hu
  have hi2 : ∃ J, PP.info? 270 = some J ∧ J.size = 0 := ⟨Tryz.t270, by kernel_rfl, by kernel_rfl⟩
  obtain ⟨J, hJ, hJs⟩ := hi2
  have hpart : ∀ w, (Go.part 270 cs 0).run PP w = .ok (.agg (cs.extract 0 0)) w := fun w => by
    simp only [Go.part, Sem.run_bind, run_agg' hu, Result.andThen_ok, isAggD, if_true, run_size' hJ, hJs, Sem.run_pure]
  simp only [method, Sem.run_bind, hi, Result.andThen_ok, hm, hp, follow, run_underlying hd, hF, Bool.false_eq_true, if_false, hFt, hFo, hpart, Sem.run_pure, hf, receiverAt, run_underlying hu]
  rfl
theorem m272_step : ∃ m, (Tryz.t272).methods.find? (·.name == "porthole/task.step") = some m ∧ m.path.toList = [] ∧ m.func = some (259, false) := ⟨{ name := "porthole/task.step", sig := 216, path := #[], func := some (259, false) }, by kernel_rfl, rfl, rfl⟩
theorem m276_step : ∃ m, (Tryz.t276).methods.find? (·.name == "porthole/task.step") = some m ∧ m.path.toList = [] ∧ m.func = some (260, false) := ⟨{ name := "porthole/task.step", sig := 216, path := #[], func := some (260, false) }, by kernel_rfl, rfl, rfl⟩
theorem m280_step : ∃ m, (Tryz.t280).methods.find? (·.name == "porthole/task.step") = some m ∧ m.path.toList = [] ∧ m.func = some (262, false) := ⟨{ name := "porthole/task.step", sig := 216, path := #[], func := some (262, false) }, by kernel_rfl, rfl, rfl⟩
theorem m284_step : ∃ m, (Tryz.t284).methods.find? (·.name == "porthole/task.step") = some m ∧ m.path.toList = [] ∧ m.func = some (266, false) := ⟨{ name := "porthole/task.step", sig := 216, path := #[], func := some (266, false) }, by kernel_rfl, rfl, rfl⟩
theorem m284_number : ∃ m, (Tryz.t284).methods.find? (·.name == "porthole/task.number") = some m ∧ m.path.toList = [] ∧ m.func = some (265, false) := ⟨{ name := "porthole/task.number", sig := 245, path := #[], func := some (265, false) }, by kernel_rfl, rfl, rfl⟩
theorem m272_number : ∃ m, (Tryz.t272).methods.find? (·.name == "porthole/task.number") = some m ∧ m.path.toList = [⟨272, 0, false⟩] ∧ m.func = some (258, false) := ⟨{ name := "porthole/task.number", sig := 245, path := #[{ struct := 272, index := 0, deref := false }], func := some (258, false) }, by kernel_rfl, rfl, rfl⟩
theorem s272 : ∃ fs F, PP.underlying 272 = some (.struct fs) ∧ fs[0]? = some F ∧ F.type = 270 ∧ F.offset = 0 := ⟨_, _, Tryz.underlying272, rfl, rfl, rfl⟩
theorem m276_number : ∃ m, (Tryz.t276).methods.find? (·.name == "porthole/task.number") = some m ∧ m.path.toList = [⟨276, 0, false⟩] ∧ m.func = some (258, false) := ⟨{ name := "porthole/task.number", sig := 245, path := #[{ struct := 276, index := 0, deref := false }], func := some (258, false) }, by kernel_rfl, rfl, rfl⟩
theorem s276 : ∃ fs F, PP.underlying 276 = some (.struct fs) ∧ fs[0]? = some F ∧ F.type = 270 ∧ F.offset = 0 := ⟨_, _, Tryz.underlying276, rfl, rfl, rfl⟩
theorem m280_number : ∃ m, (Tryz.t280).methods.find? (·.name == "porthole/task.number") = some m ∧ m.path.toList = [⟨280, 0, false⟩] ∧ m.func = some (258, false) := ⟨{ name := "porthole/task.number", sig := 245, path := #[{ struct := 280, index := 0, deref := false }], func := some (258, false) }, by kernel_rfl, rfl, rfl⟩
theorem s280 : ∃ fs F, PP.underlying 280 = some (.struct fs) ∧ fs[0]? = some F ∧ F.type = 270 ∧ F.offset = 0 := ⟨_, _, Tryz.underlying280, rfl, rfl, rfl⟩
theorem info272 : PP.info? 272 = some Tryz.t272 := by kernel_rfl
theorem info276 : PP.info? 276 = some Tryz.t276 := by kernel_rfl
theorem info280 : PP.info? 280 = some Tryz.t280 := by kernel_rfl
theorem info284 : PP.info? 284 = some Tryz.t284 := by kernel_rfl
theorem s284 : ∃ fs, PP.underlying 284 = some (.struct fs) := ⟨_, Tryz.underlying284⟩
/-- a method found behind an interface -/
theorem meth_ok {t : Nat} {name : String} {r : Option (Nat × Nat) × Nat} (h : methT t name = some r) :
    (r.1 = none → ∀ v w, (method (PP.types.size + Made.depth) t v name).run PP w = .ok (r.2, v) w) ∧
    (∀ p, r.1 = some p → p = (0, 0) ∧ ∀ cs w, (method (PP.types.size + Made.depth) t (.agg cs) name).run PP w = .ok (r.2, .agg (cs.extract 0 0)) w) := by
  obtain ⟨k, hk⟩ : ∃ k, PP.types.size + Made.depth = k + 1 := ⟨PP.types.size + Made.depth - 1, by have : 0 < Made.depth := by decide
                                                                                                  omega⟩
  rw [hk]
  rcases methT_cases h with ⟨rfl, hh⟩ | ⟨rfl, hh⟩
  · rcases hh with ⟨rfl, rfl⟩ | ⟨rfl, rfl⟩ | ⟨rfl, rfl⟩ | ⟨rfl, rfl⟩
    · obtain ⟨m, h1, h2, h3⟩ := m272_step
      obtain ⟨fs, F, hd, _, _, _⟩ := s272
      exact ⟨fun _ v w => meth_plain info272 h1 h2 h3 hd (fun e => by simp) k v w, fun p hp => (by cases hp)⟩
    · obtain ⟨m, h1, h2, h3⟩ := m276_step
      obtain ⟨fs, F, hd, _, _, _⟩ := s276
      exact ⟨fun _ v w => meth_plain info276 h1 h2 h3 hd (fun e => by simp) k v w, fun p hp => (by cases hp)⟩
    · obtain ⟨m, h1, h2, h3⟩ := m280_step
      obtain ⟨fs, F, hd, _, _, _⟩ := s280
      exact ⟨fun _ v w => meth_plain info280 h1 h2 h3 hd (fun e => by simp) k v w, fun p hp => (by cases hp)⟩
    · obtain ⟨m, h1, h2, h3⟩ := m284_step
      obtain ⟨fs, hd⟩ := s284
      exact ⟨fun _ v w => meth_plain info284 h1 h2 h3 hd (fun e => by simp) k v w, fun p hp => (by cases hp)⟩
  · rcases hh with ⟨rfl, rfl⟩ | ⟨rfl, rfl⟩ | ⟨rfl, rfl⟩ | ⟨rfl, rfl⟩
    · obtain ⟨m, h1, h2, h3⟩ := m272_number
      obtain ⟨fs, F, hd, hF, hFt, hFo⟩ := s272
      exact ⟨fun hp => (by cases hp), fun p hp => by cases hp; exact ⟨rfl, fun cs w => meth_path info272 h1 h2 h3 hd hF hFt hFo k cs w⟩⟩
    · obtain ⟨m, h1, h2, h3⟩ := m276_number
      obtain ⟨fs, F, hd, hF, hFt, hFo⟩ := s276
      exact ⟨fun hp => (by cases hp), fun p hp => by cases hp; exact ⟨rfl, fun cs w => meth_path info276 h1 h2 h3 hd hF hFt hFo k cs w⟩⟩
    · obtain ⟨m, h1, h2, h3⟩ := m280_number
      obtain ⟨fs, F, hd, hF, hFt, hFo⟩ := s280
      exact ⟨fun hp => (by cases hp), fun p hp => by cases hp; exact ⟨rfl, fun cs w => meth_path info280 h1 h2 h3 hd hF hFt hFo k cs w⟩⟩
    · obtain ⟨m, h1, h2, h3⟩ := m284_number
      obtain ⟨fs, hd⟩ := s284
      exact ⟨fun _ v w => meth_plain info284 h1 h2 h3 hd (fun e => by simp) k v w, fun p hp => (by cases hp)⟩
/-- an operation that does, walked -/
theorem Does.wp {F : Fence} {n : Nat} (hW : Wd F) {φ : Phi} {H H' : Hp} {w : World} {o : Oper} {a : Act} {v : AV} (hd : Does ω φ H w (execOp a.eval o) v H') (hnd : ∀ c, o.op ≠ .defer c) {next : Act → World → Prop} {Q : Exit → Act → World → Prop}
    (hk : ∀ φ' x w', conc ω φ' v = some x → Rel ω φ' H' w' → Post φ H w φ' H' w' → next (a.put o.dst x) w') : o.wpIn F n PP a w next Q := by
  obtain ⟨φ', w', x, hx, hc, hr, hp⟩ := hd
  refine ⟨fun f _ => hW.fn f, ?_⟩
  rw [Oper.semAt_eq _ _ _ hnd]
  rcases hx with hx | ⟨hx, rfl⟩
  · rw [hx]; exact hk φ' x w' hc hr hp
  · rw [hx]; exact hk φ' undef w' hc hr hp
/-- what a call answers, handed on -/
theorem enter_wp {run : Run} (hrun : RunOk ω run) {F : Fence} {n : Nat} (hW : Wd F) {φ : Phi} {H H' : Hp} {w : World} {o : Oper} {a : Act} {v : AV} {f : Nat} {args : List AV} {L : List Value} (hnd : ∀ c, o.op ≠ .defer c) (hx : (execOp a.eval o).run PP w = .ok (.enter f L.toArray) w) (hc : callF run f args H = some (v, H')) (h : Rel ω φ H w) (hL : concL ω φ args = some L) {next : Act → World → Prop} {Q : Exit → Act → World → Prop}
    (hk : ∀ φ' x w', conc ω φ' v = some x → Rel ω φ' H' w' → Post φ H w φ' H' w' → next (a.put o.dst x) w') : o.wpIn F n PP a w next Q := by
  refine ⟨fun f _ => hW.fn f, ?_⟩
  rw [Oper.semAt_eq _ _ _ hnd, hx]
  refine ⟨fun h0 => (by rw [hW.dep] at h0; cases h0), ?_⟩
  refine (fn_ok ω hrun hc hW (n := n - 1) h hL).mono fun e w' ⟨φ', x, he, hcx, hr, hp⟩ => ?_
  subst he
  exact hk φ' x w' hcx hr hp
theorem callFunc_ok {f : Nat} {i : Fi} (hi : fnT.get f = some i) (args : Array Value) (w : World) : (callFunc f args).run PP w = .ok (.enter f args) w := by
  obtain ⟨fn, hf, hb, _, _, hname⟩ := fnT_get hi
  have hn2 : ¬ fn.name = "runtime.NumGoroutine" := by simpa using hname
  simp [callFunc, hf, hn2, hb]
theorem callF_get {run : Run} {f : Nat} {args : List AV} {H : Hp} {r : AV × Hp} (h : callF run f args H = some r) : ∃ i, fnT.get f = some i := by
  obtain ⟨i, hi, _⟩ := ob_some h
  exact ⟨i, hi⟩
include hω in
theorem loud_ok {run : Run} (hrun : RunOk ω run) {F : Fence} {n N : Nat} (hW : Wd F) {φ : Phi} {T : Fr} {a : Act} {H H' : Hp} {w : World} (hT : TRel ω φ T N a.tmps) (h : Rel ω φ H w) {o : Oper} {f : Run → Fr → Hp → Option (AV × Hp)} (hc : cls o.op = .loud f) {v : AV} (hv : f run T H = some (v, H')) {next : Act → World → Prop} {Q : Exit → Act → World → Prop}
    (hk : ∀ φ' x w', conc ω φ' v = some x → Rel ω φ' H' w' → Post φ H w φ' H' w' → next (a.put o.dst x) w') : o.wpIn F n PP a w next Q := by
  obtain ⟨dst, op, type, pos, after, guard⟩ := o
  simp only at hc
  cases op
  case store t p x =>
    cases hc
    obtain ⟨u, hu, hv⟩ := ob_some hv
    obtain ⟨s, hs, hv⟩ := ob_some hv
    obtain ⟨rfl, w', hr, h1, h2⟩ := storeL_ok ω h hv (evo_ok ω hT h.g0 hu) (evo_ok ω hT h.g0 hs)
    exact Does.wp ω hW ⟨φ, w', undef, .inr ⟨by simp [execOp, hr], rfl⟩, rfl, h1, h2⟩ (fun c => by simp) hk
  case mapUpdate t m k x =>
    cases hc
    obtain ⟨u, hu, hv⟩ := ob_some hv
    obtain ⟨s, hs, hv⟩ := ob_some hv
    obtain ⟨q, hq, hv⟩ := ob_some hv
    obtain ⟨rfl, w', hr, h1, h2⟩ := mupdL_ok ω h hv (evo_ok ω hT h.g0 hu) (evo_ok ω hT h.g0 hs) (evo_ok ω hT h.g0 hq)
    exact Does.wp ω hW ⟨φ, w', undef, .inr ⟨by simp [execOp, hr], rfl⟩, rfl, h1, h2⟩ (fun c => by simp) hk
  case convert s d x =>
    unfold cls at hc
    simp only [clsV] at hc
    split at hc
    · cases hc
      obtain ⟨e, he, hv⟩ := ob_some hv
      obtain ⟨hu8, hv⟩ := ch_some hv
      obtain ⟨i, hi, hv⟩ := ob_some hv
      obtain ⟨u, hu, hv⟩ := ob_some hv
      obtain ⟨I, D, z, hty⟩ := tyG_ok ω hi
      have hk8 : e.k = .int .u8 := by
        unfold isU8 at hu8
        cases hek : e.k <;> rw [hek] at hu8 <;> first | (rw [kindEq_eq (show kindEq _ .u8 = true from hu8)]) | exact nomatch (show false = true from hu8)
      obtain ⟨φ', w', y, hr, hcy, h1, h2⟩ := bytesL_ok ω h hty.und he hk8 hv (evo_ok ω hT h.g0 hu)
      exact Does.wp ω hW ⟨φ', w', y, .inl (by simp [execOp, hr]), hcy, h1, h2⟩ (fun c => by simp) hk
    · cases hc
  case call c =>
    unfold cls at hc
    simp only [clsC] at hc
    split at hc
    · rename_i g hg
      cases hc
      obtain ⟨u, hu, hv⟩ := ob_some hv
      obtain ⟨l, hl, hv⟩ := ob_some hv
      obtain ⟨fu, hfu, hv⟩ := ob_some hv
      have hcu := evo_ok ω hT h.g0 hu
      have hcl := evl_ok ω hT h.g0 hl
      have := asFn_eq hfu
      subst this
      have hcu2 := hcu
      simp only [conc, Option.bind_eq_some_iff, Option.map_eq_some_iff] at hcu2
      obtain ⟨fn, hfn, af, haf, cf, hcf, hval⟩ := hcu2
      cases hff : fu.f with
      | func g' =>
        rw [hff] at hv hfn
        cases hfn
        obtain ⟨i, hi⟩ := callF_get hv
        have hL : concL ω φ (fu.a ++ (l ++ fu.c)) = some (af ++ (c.args.toList.map a.eval ++ cf)) := concL_append ω haf (concL_append ω hcl hcf)
        refine enter_wp ω hrun hW (fun c => by simp) ?_ hv h hL hk
        have harr : af.toArray ++ c.args.map a.eval ++ cf.toArray = (af ++ (c.args.toList.map a.eval ++ cf)).toArray := by
          apply Array.ext'
          simp
        simp only [execOp, resolve, hg, ← hval, Deferred.ofValue, Sem.run_bind, Sem.run_pure, Result.andThen_ok, invoke, callFunc_ok hi, harr]
      | yield l' =>
        rw [hff] at hv hfn
        simp only [fnC, Option.map_eq_some_iff] at hfn
        obtain ⟨e, he, rfl⟩ := hfn
        cases hfa : fu.a with
        | nil =>
          cases hfc : fu.c with
          | nil =>
            simp only [hfa, hfc] at hv
            rw [hfa] at haf
            rw [hfc] at hcf
            have haf := concL_nil ω haf
            have hcf := concL_nil ω hcf
            subst haf
            subst hcf
            obtain ⟨e', f', tmps, asg, body, he', hy, hr⟩ := round_ok ω hrun hv hW (n := n - 1) h hcl
            rw [he] at he'
            cases he'
            refine ⟨fun f _ => hW.fn f, ?_⟩
            rw [Oper.semAt_eq _ _ _ (fun c => by simp)]
            have hLL : (c.args.toList.map a.eval).toArray = c.args.map a.eval := by rw [← Array.toList_map, Array.toArray_toList]
            have hx : (execOp a.eval { dst := dst, op := .call c, type := type, pos := pos, after := after, guard := guard }).run PP w = .ok (.round e.blk f' tmps asg body) w := by
              rw [hLL] at hy
              simp only [execOp, resolve, hg, ← hval, Deferred.ofValue, Sem.run_bind, Sem.run_pure, Result.andThen_ok, invoke, Array.empty_append, hy]
            rw [hx]
            refine ⟨fun h0 => (by rw [hW.dep] at h0; cases h0), ?_⟩
            refine hr.mono fun e w' ⟨φ', x, he, hcx, hr, hp⟩ => ?_
            subst he
            exact hk φ' x w' hcx hr hp
          | cons _ _ => simp only [hfa, hfc] at hv; cases hv
        | cons _ _ => simp only [hfa] at hv; cases hv
      | _ => rw [hff] at hv; cases hv
    · rename_i r name hg
      cases hc
      obtain ⟨u, hu, hv⟩ := ob_some hv
      obtain ⟨q, hq, hv⟩ := ob_some hv
      obtain ⟨l, hl, hv⟩ := ob_some hv
      obtain ⟨m, hm, hM⟩ := ob_some hv
      clear hv
      have hcu := evo_ok ω hT h.g0 hu
      have hcl := evl_ok ω hT h.g0 hl
      have := asIfc_eq hq
      subst this
      simp only [conc, Option.map_eq_some_iff] at hcu
      obtain ⟨y, hy, hval⟩ := hcu
      obtain ⟨hm1, hm2⟩ := meth_ok hm
      have hext : ∀ (x : Value) (xs : Array Value), (#[x] ++ xs).extract 1 (#[x] ++ xs).size = xs := fun x xs => by
        apply Array.ext'
        simp
      cases hmm : m.1 with
      | none =>
        rw [hmm] at hM
        have hv : callF run m.2 (q.2 :: l) H = some (v, H') := hM
        obtain ⟨i, hi⟩ := callF_get hv
        have hL : concL ω φ (q.2 :: l) = some (y :: c.args.toList.map a.eval) := concL_mk ω hy hcl
        refine enter_wp ω hrun hW (fun c => by simp) ?_ hv h hL hk
        have harr : #[y] ++ c.args.map a.eval = (y :: c.args.toList.map a.eval).toArray := by
          apply Array.ext'
          simp
        have h00 : ∀ x : Value, (#[x] ++ c.args.map a.eval)[0]? = some x := fun x => by rw [Array.getElem?_append_left (by simp)]; rfl
        simp only [execOp, resolve, hg, Sem.run_bind, Sem.run_pure, Result.andThen_ok, invoke, h00, hext, callMethod, ← hval, run_program, hm1 hmm, callFunc_ok hi, harr]
      | some p =>
        rw [hmm] at hM
        obtain ⟨cs, hcs, hv⟩ := ob_some (show ob (asAgg q.2) _ = some (v, H') from hM)
        obtain ⟨l2, hl2, hv⟩ := ob_some hv
        obtain ⟨rfl, hm3⟩ := hm2 p hmm
        obtain ⟨i, hi⟩ := callF_get hv
        have hag := asAgg_eq hcs
        rw [hag] at hy
        simp only [conc, Option.map_eq_some_iff] at hy
        obtain ⟨C, hC, rfl⟩ := hy
        have hL : concL ω φ (.agg [] :: l) = some (.agg #[] :: c.args.toList.map a.eval) := concL_mk ω rfl hcl
        refine enter_wp ω hrun hW (fun c => by simp) ?_ hv h hL hk
        have harr : #[Value.agg #[]] ++ c.args.map a.eval = (Value.agg #[] :: c.args.toList.map a.eval).toArray := by
          apply Array.ext'
          simp
        have h00 : ∀ x : Value, (#[x] ++ c.args.map a.eval)[0]? = some x := fun x => by rw [Array.getElem?_append_left (by simp)]; rfl
        have hex0 : C.toArray.extract 0 0 = #[] := by simp
        have hm4 := hm3 C.toArray w
        rw [hex0] at hm4
        simp only [execOp, resolve, hg, Sem.run_bind, Sem.run_pure, Result.andThen_ok, invoke, h00, hext, callMethod, ← hval, run_program, hm4, callFunc_ok hi, harr]
    · rename_i b hb
      cases b
      case append =>
        cases hc
        obtain ⟨t, ht, hv⟩ := ob_some hv
        obtain ⟨t', ht', hv⟩ := ob_some hv
        obtain ⟨e', he', hv⟩ := ob_some hv
        obtain ⟨e, he, hv⟩ := ob_some hv
        obtain ⟨l, hl, hv⟩ := ob_some hv
        have hcl := evl_ok ω hT h.g0 hl
        match l, hv with
        | [s, x], hv =>
          obtain ⟨S, l1, hS, hl1, he1⟩ := concL_cons ω hcl
          obtain ⟨X, l2, hX, hl2, he2⟩ := concL_cons ω hl1
          have he3 := concL_nil ω hl2
          subst he3
          subst he2
          obtain ⟨φ', w', y, hr, hcy, h1, h2⟩ := appendL_ok ω h type ht ht' he he' hv hS hX
          have hLL : c.args.map a.eval = #[S, X] := by
            apply Array.ext'
            rw [Array.toList_map, he1]
          exact Does.wp ω hW ⟨φ', w', y, .inl (by simp only [execOp, resolve, hb, Sem.run_bind, Sem.run_pure, Result.andThen_ok, invoke, builtin, hLL, hr]), hcy, h1, h2⟩ (fun c => by simp) hk
      case clear =>
        cases hc
        obtain ⟨t, ht, hv⟩ := ob_some hv
        obtain ⟨e, he, hv⟩ := ob_some hv
        obtain ⟨l, hl, hv⟩ := ob_some hv
        have hcl := evl_ok ω hT h.g0 hl
        match l, hv with
        | [x], hv =>
          obtain ⟨X, l1, hX, hl1, he1⟩ := concL_cons ω hcl
          have he3 := concL_nil ω hl1
          subst he3
          obtain ⟨rfl, w', hr, h1, h2⟩ := clearL_ok ω h type ht he hv hX
          have hLL : c.args.map a.eval = #[X] := by
            apply Array.ext'
            rw [Array.toList_map, he1]
          exact Does.wp ω hW ⟨φ, w', undef, .inl (by simp only [execOp, resolve, hb, Sem.run_bind, Sem.run_pure, Result.andThen_ok, invoke, builtin, hLL, hr]), rfl, h1, h2⟩ (fun c => by simp) hk
      all_goals cases hc
  all_goals cases hc
end
end Go.Proofs.YtenadfoomejmkaaGreatDoor.Eng
