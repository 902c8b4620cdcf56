import Derived.Test.YtenadfoomejmkaaGreatDoorSndC
/- The engine's soundness, fourth part: operations that need no memory. -/
namespace Go.Proofs.YtenadfoomejmkaaGreatDoor.Eng
open Go
set_option linter.unusedSimpArgs false
set_option linter.unusedVariables false
section
variable (ω : Bool → Int) (hω : ω true ≠ ω false)
/-- a computation that leaves the world alone and comes to a value -/
def Gives (s : Sem Value) (x : Value) : Prop := ∀ w, s.run PP w = .ok x w
theorem wrap64_eq (n : Int) : wrap64N n = IntKind.wrap .i64 n := by
  cases n with
  | ofNat m =>
    show ite2 (Nat.blt m 9223372036854775808) (Int.ofNat m) (IntKind.wrap .i64 (.ofNat m)) = _
    rw [ite2_eq]
    split
    · rename_i h
      have h := nblt h
      have h1 : ((m : Int) % 2 ^ 64) = (m : Int) := Int.emod_eq_of_lt (by omega) (by omega)
      show (m : Int) = _
      simp only [IntKind.wrap, IntKind.bits, IntKind.signed, Int.ofNat_eq_natCast, h1]
      rw [if_neg]
      simp; omega
    · rfl
  | negSucc m =>
    show ite2 (Nat.blt m 9223372036854775808) (Int.negSucc m) (IntKind.wrap .i64 (.negSucc m)) = _
    rw [ite2_eq]
    split
    · rename_i h
      have h := nblt h
      have h1 : (Int.negSucc m % 2 ^ 64) = Int.negSucc m + 2 ^ 64 := by
        rw [← Int.add_emod_right]
        exact Int.emod_eq_of_lt (by omega) (by omega)
      simp only [IntKind.wrap, IntKind.bits, IntKind.signed, h1]
      rw [if_pos]
      · omega
      · simp; omega
    · rfl
theorem wrapF_eq (k : IntKind) (n : Int) : wrapF k n = k.wrap n := by
  cases k
  case i64 => exact wrap64_eq n
  case u8 =>
    cases n with
    | ofNat m => show ((m % 256 : Nat) : Int) = _; simp [IntKind.wrap, IntKind.bits, IntKind.signed]
    | negSucc m => rfl
  case u32 =>
    cases n with
    | ofNat m => show ((m % 4294967296 : Nat) : Int) = _; simp [IntKind.wrap, IntKind.bits, IntKind.signed]
    | negSucc m => rfl
  case u64 =>
    cases n with
    | ofNat m => show ((m % 18446744073709551616 : Nat) : Int) = _; simp [IntKind.wrap, IntKind.bits, IntKind.signed]
    | negSucc m => rfl
  all_goals rfl
theorem intOp_ok {φ : Phi} {op : BinOp} {k : IntKind} {a b : Int} {v : AV} (h : intOp op k a b = some v) (hs : shiftOp op = none) (xt : TypeId) (xo yo : Operand) :
    ∃ x, conc ω φ v = some x ∧ Gives (do eqGuard op xt xo yo (.int k a) (.int k b); binOp op xt (.int k a) (.int k b)) x := by
  have hg : ∀ w, (eqGuard op xt xo yo (.int k a) (.int k b)).run PP w = .ok () w := fun w => by
    unfold eqGuard; cases op <;> simp
  cases op
  all_goals
    first
      | exact nomatch (show none = some v from h)
      | exact nomatch (show some true = none from hs)
      | exact nomatch (show some false = none from hs)
      | skip
  case add => cases (show some (AV.int k (wrapF k (a + b))) = some v from h); exact ⟨_, rfl, fun w => by simp [hg, binOp, Op.intArith, wrapF_eq]⟩
  case sub => cases (show some (AV.int k (wrapF k (a - b))) = some v from h); exact ⟨_, rfl, fun w => by simp [hg, binOp, Op.intArith, wrapF_eq]⟩
  case mul => cases (show some (AV.int k (wrapF k (a * b))) = some v from h); exact ⟨_, rfl, fun w => by simp [hg, binOp, Op.intArith, wrapF_eq]⟩
  case quo =>
    have h : ite2 (eqF b 0) none (some (AV.int k (wrapF k (a.tdiv b)))) = some v := h
    rw [ite2_eq] at h
    split at h
    · cases h
    · rename_i hb
      cases h
      have : ¬ b = 0 := fun e => hb (eqF_eq.2 e)
      exact ⟨_, rfl, fun w => by simp [hg, binOp, Op.intDiv, wrapF_eq, this]⟩
  case rem =>
    have h : ite2 (eqF b 0) none (some (AV.int k (a.tmod b))) = some v := h
    rw [ite2_eq] at h
    split at h
    · cases h
    · rename_i hb
      cases h
      have : ¬ b = 0 := fun e => hb (eqF_eq.2 e)
      exact ⟨_, rfl, fun w => by simp [hg, binOp, Op.intDiv, this]⟩
  case and => cases (show some _ = some v from h); exact ⟨_, rfl, fun w => by simp [hg, binOp, Op.intBits]⟩
  case or => cases (show some _ = some v from h); exact ⟨_, rfl, fun w => by simp [hg, binOp, Op.intBits]⟩
  case andNot => cases (show some _ = some v from h); exact ⟨_, rfl, fun w => by simp [hg, binOp, Op.intBits]⟩
  case eql => cases (show some (AV.bool (eqF a b)) = some v from h); exact ⟨_, rfl, fun w => by simp [hg, binOp, Op.intCmp, eqF_dec]⟩
  case neq => cases (show some (AV.bool (!eqF a b)) = some v from h); exact ⟨_, rfl, fun w => by simp [hg, binOp, Op.intCmp, eqF_dec, bne]⟩
  case lss => cases (show some (AV.bool (ltF a b)) = some v from h); exact ⟨_, rfl, fun w => by simp [hg, binOp, Op.intCmp, ltF_dec]⟩
  case leq => cases (show some (AV.bool (!ltF b a)) = some v from h); exact ⟨_, rfl, fun w => by simp [hg, binOp, Op.intCmp, ltF_dec]; by_cases hh : b < a <;> simp [hh] <;> omega⟩
  case gtr => cases (show some (AV.bool (ltF b a)) = some v from h); exact ⟨_, rfl, fun w => by simp [hg, binOp, Op.intCmp, ltF_dec]⟩
  case geq => cases (show some (AV.bool (!ltF a b)) = some v from h); exact ⟨_, rfl, fun w => by simp [hg, binOp, Op.intCmp, ltF_dec]; by_cases hh : a < b <;> simp [hh] <;> omega⟩
theorem shiftA_ok {φ : Phi} {op : BinOp} {l : Bool} {k j : IntKind} {a b : Int} {v : AV} (hs : shiftOp op = some l) (h : shiftA l k a b = some v) (xt : TypeId) (xo yo : Operand) :
    ∃ x, conc ω φ v = some x ∧ Gives (do eqGuard op xt xo yo (.int k a) (.int j b); binOp op xt (.int k a) (.int j b)) x := by
  have h : ite2 (ltF b 0) none (ite2 l (some (AV.int k (k.wrap (a * 2 ^ (min b.toNat k.bits))))) (some (.int k (a.fdiv (2 ^ (min b.toNat k.bits)))))) = some v := h
  rw [ite2_eq] at h
  split at h
  · cases h
  · rename_i hb
    have hb : ¬ b < 0 := fun e => hb (ltF_lt.2 e)
    rw [ite2_eq] at h
    cases op
    case shl => cases (show some true = some l from hs); cases h; exact ⟨_, rfl, fun w => by simp [eqGuard, binOp, Op.shift, hb]⟩
    case shr => cases (show some false = some l from hs); cases h; exact ⟨_, rfl, fun w => by simp [eqGuard, binOp, Op.shift, hb]⟩
    all_goals exact nomatch (show none = some l from hs)
theorem eqlOp_ok {op : BinOp} {b : Bool} {v : AV} (h : eqlOp op b = some v) : (op = .eql ∧ v = .bool b) ∨ (op = .neq ∧ v = .bool (!b)) := by
  cases op
  case eql => cases (show some (AV.bool b) = some v from h); exact .inl ⟨rfl, rfl⟩
  case neq => cases (show some (AV.bool (!b)) = some v from h); exact .inr ⟨rfl, rfl⟩
  all_goals exact nomatch (show none = some v from h)
theorem tagT_ok {t : TypeId} {g : Nat} (h : tagT t = some g) : ∃ i I d z, TyOk ω t i I d z ∧ kTag i.k = g := by
  obtain ⟨i, hi, h⟩ := ob_some h
  cases h
  obtain ⟨I, d, z, hT⟩ := tyG_ok ω hi
  exact ⟨i, I, d, z, hT, rfl⟩
theorem chkK_tag {d : TypeDesc} {k : TyK} (h : chkK d k = true) : (kTag k = 0 → ∃ e, d = .pointer e) ∧ (kTag k = 1 → ∃ e, d = .slice e) ∧ (kTag k = 2 → ∃ a b c, d = .func a b c) ∧ (kTag k = 3 → ∃ m, d = .interface m) ∧ (kTag k = 4 → d = .bool) ∧ (kTag k = 5 → d = .string) := by
  refine ⟨fun hk => ?_, fun hk => ?_, fun hk => ?_, fun hk => ?_, fun hk => ?_, fun hk => ?_⟩
  all_goals
    cases k <;> first | exact absurd (show (9 : Nat) = _ from hk) (by decide) | exact absurd (show (0 : Nat) = _ from hk) (by decide) | exact absurd (show (1 : Nat) = _ from hk) (by decide) | exact absurd (show (2 : Nat) = _ from hk) (by decide) | exact absurd (show (3 : Nat) = _ from hk) (by decide) | exact absurd (show (4 : Nat) = _ from hk) (by decide) | exact absurd (show (5 : Nat) = _ from hk) (by decide) | skip
    cases d <;> first | exact ⟨_, rfl⟩ | exact ⟨_, _, _, rfl⟩ | rfl | (exact absurd h (by simp [chkK]))
theorem nilOf_ok {φ : Phi} {v : AV} {p : Nat × Bool} {x : Value} (h : nilOf v = some p) (hx : conc ω φ v = some x) :
    (p.1 = 0 ∧ ((p.2 = true ∧ x = .pointer none) ∨ (p.2 = false ∧ ∃ a, x = .pointer (some a)))) ∨ (p.1 = 1 ∧ ((p.2 = true ∧ x = .slice none 0 0) ∨ (p.2 = false ∧ ∃ a n c, x = .slice (some a) n c))) ∨
    (p.1 = 2 ∧ ((p.2 = true ∧ x = .nilFunc) ∨ (p.2 = false ∧ ∃ f a c, x = .func f a c))) ∨ (p.1 = 3 ∧ ((p.2 = true ∧ x = .nilIface) ∨ (p.2 = false ∧ ∃ t y, x = .iface t y))) := by
  cases v
  case nilP => cases h; cases hx; simp
  case nilS => cases h; cases hx; simp
  case nilF => cases h; cases hx; simp
  case nilI => cases h; cases hx; simp
  case ptr => cases h; simp only [conc, Option.map_eq_some_iff] at hx; obtain ⟨_, _, rfl⟩ := hx; simp
  case slc => cases h; simp only [conc, Option.bind_eq_some_iff, Option.map_eq_some_iff] at hx; obtain ⟨_, _, _, _, rfl⟩ := hx; simp
  case fn => cases h; simp only [conc, Option.bind_eq_some_iff, Option.map_eq_some_iff] at hx; obtain ⟨_, _, _, _, _, _, rfl⟩ := hx; simp
  case ifc => cases h; simp only [conc, Option.map_eq_some_iff] at hx; obtain ⟨_, _, rfl⟩ := hx; simp
  all_goals exact nomatch (show none = some p from h)
/-- equality where one side is nil, and of bools -/
theorem equal_run {t : TypeId} {X Y : Value} {r : Bool} {w : World} (h : ∀ d, (Op.equalIn (d + 1) t X Y).run PP w = .ok r w) : (Op.equal t X Y).run PP w = .ok r w := h 9999
section
variable {t : TypeId} {w : World}
theorem eq_pn {e : TypeId} (hu : (underlying t).run PP w = .ok (.pointer e) w) (b : Option Addr) : (Op.equal t (.pointer none) (.pointer b)).run PP w = .ok b.isNone w := equal_run fun d => by simp [Op.equalIn, hu]
theorem eq_np {e : TypeId} (hu : (underlying t).run PP w = .ok (.pointer e) w) (b : Option Addr) : (Op.equal t (.pointer b) (.pointer none)).run PP w = .ok b.isNone w := equal_run fun d => by cases b <;> simp [Op.equalIn, hu]
theorem eq_sn {e : TypeId} (hu : (underlying t).run PP w = .ok (.slice e) w) (b : Option Addr) (n c m k : Nat) : (Op.equal t (.slice none m k) (.slice b n c)).run PP w = .ok b.isNone w := equal_run fun d => by simp [Op.equalIn, hu]
theorem eq_ns {e : TypeId} (hu : (underlying t).run PP w = .ok (.slice e) w) (b : Option Addr) (n c m k : Nat) : (Op.equal t (.slice b n c) (.slice none m k)).run PP w = .ok b.isNone w := equal_run fun d => by cases b <;> simp [Op.equalIn, hu]
theorem eq_ff {a b : Array TypeId} {c : Bool} (hu : (underlying t).run PP w = .ok (.func a b c) w) : (Op.equal t .nilFunc .nilFunc).run PP w = .ok true w := equal_run fun d => by simp [Op.equalIn, hu]
theorem eq_fg {a b : Array TypeId} {c : Bool} (hu : (underlying t).run PP w = .ok (.func a b c) w) (f : Fn) (x y : Array Value) : (Op.equal t .nilFunc (.func f x y)).run PP w = .ok false w := equal_run fun d => by simp [Op.equalIn, hu]
theorem eq_gf {a b : Array TypeId} {c : Bool} (hu : (underlying t).run PP w = .ok (.func a b c) w) (f : Fn) (x y : Array Value) : (Op.equal t (.func f x y) .nilFunc).run PP w = .ok false w := equal_run fun d => by simp [Op.equalIn, hu]
theorem eq_ii {m : Array (String × TypeId)} (hu : (underlying t).run PP w = .ok (.interface m) w) : (Op.equal t .nilIface .nilIface).run PP w = .ok true w := equal_run fun d => by simp [Op.equalIn, hu]
theorem eq_ij {m : Array (String × TypeId)} (hu : (underlying t).run PP w = .ok (.interface m) w) (u : TypeId) (y : Value) : (Op.equal t .nilIface (.iface u y)).run PP w = .ok false w := equal_run fun d => by simp [Op.equalIn, hu]
theorem eq_ji {m : Array (String × TypeId)} (hu : (underlying t).run PP w = .ok (.interface m) w) (u : TypeId) (y : Value) : (Op.equal t (.iface u y) .nilIface).run PP w = .ok false w := equal_run fun d => by simp [Op.equalIn, hu]
theorem eq_bb (hu : (underlying t).run PP w = .ok .bool w) (a b : Bool) : (Op.equal t (.bool a) (.bool b)).run PP w = .ok (a == b) w := equal_run fun d => by simp [Op.equalIn, hu]
end
theorem btl (b : ByteArray) : ∀ (n i : Nat) (r : List UInt8), n = b.size - i → ByteArray.toList.loop b i r = r.reverse ++ b.data.toList.drop i := by
  intro n
  induction n with
  | zero =>
    intro i r h
    rw [ByteArray.toList.loop.eq_def, if_neg (by omega), List.drop_eq_nil_of_le (by have : b.size = b.data.size := rfl; simp; omega), List.append_nil]
  | succ n ih =>
    intro i r h
    have hlt : i < b.data.toList.length := by have : b.size = b.data.size := rfl; simp; omega
    rw [ByteArray.toList.loop.eq_def, if_pos (by omega), ih _ _ (by omega), List.drop_eq_getElem_cons hlt]
    have : b.get! i = b.data.toList[i] := by
      have h2 : i < b.data.size := by simpa using hlt
      rw [show b.get! i = b.data[i]! from rfl, getElem!_pos b.data i h2]; simp
    simp [this]
theorem bt (b : ByteArray) : b.toList = b.data.toList := by
  rw [ByteArray.toList, btl b _ 0 [] rfl]; simp
theorem be (a b : ByteArray) : (a.toList == b.toList) = strEq a b := by rw [bt, bt]; rfl
theorem isCo_eq {yo : Operand} (h : isCo yo = true) : ∃ c, yo = .const c := by
  cases yo
  case const c => exact ⟨c, rfl⟩
  all_goals exact nomatch (show false = true from h)
include hω in
theorem binA_ok {φ : Phi} {op : BinOp} {x y v : AV} {X Y : Value} {t : TypeId} {xo yo : Operand} (h : binA (tagT t) (isCo yo) op x y = some v) (hx : conc ω φ x = some X) (hy : conc ω φ y = some Y) :
    ∃ z, conc ω φ v = some z ∧ Gives (do eqGuard op t xo yo X Y; binOp op t X Y) z := by
  have hN : ∀ {v : AV}, binN (tagT t) (isCo yo) op x y = some v → ∃ z, conc ω φ v = some z ∧ Gives (do eqGuard op t xo yo X Y; binOp op t X Y) z := fun {v} h => by
    obtain ⟨g, hg, h⟩ := ob_some h
    obtain ⟨p, hp, h⟩ := ob_some h
    obtain ⟨q, hq, h⟩ := ob_some h
    obtain ⟨hc, hE⟩ := ch_some h
    clear h
    simp only [Bool.and_eq_true, nbeqI, Bool.or_eq_true] at hc
    obtain ⟨⟨hpq, hpg⟩, hco, hor⟩ := hc
    obtain ⟨i, I, d, z, hT, hk⟩ := tagT_ok ω hg
    have hd := chkK_tag hT.kk
    rw [hk, ← hpg] at hd
    have hX := nilOf_ok ω hp hx
    have hY := nilOf_ok ω hq hy
    rw [← hpq] at hY
    have hu := hT.run_und ω
    obtain ⟨c, rfl⟩ := isCo_eq hco
    have key : ∀ b : Bool, ((eqGuard op t xo (.const c) X Y : _root_.Go.Sem Unit) = pure ()) → (binOp .eql t X Y = do pure (.bool (← Op.equal t X Y))) → (binOp .neq t X Y = do pure (.bool (!(← Op.equal t X Y)))) → (∀ w, (Op.equal t X Y).run PP w = .ok (p.2 && q.2) w) → ∃ z, conc ω φ v = some z ∧ Gives (do eqGuard op t xo (.const c) X Y; binOp op t X Y) z := fun b h1 h2 h3 h4 => by
      rcases eqlOp_ok hE with ⟨rfl, rfl⟩ | ⟨rfl, rfl⟩
      · exact ⟨_, rfl, fun w => by simp [h1, h2, h4]⟩
      · exact ⟨_, rfl, fun w => by simp [h1, h3, h4]⟩
    rcases hX with ⟨h0, hX⟩ | ⟨h0, hX⟩ | ⟨h0, hX⟩ | ⟨h0, hX⟩ <;> rcases hY with ⟨h1, hY⟩ | ⟨h1, hY⟩ | ⟨h1, hY⟩ | ⟨h1, hY⟩ <;> (first | (exfalso; omega) | skip)
    · obtain ⟨e, hd⟩ := hd.1 h0
      subst hd
      rcases hX with ⟨hb, hX⟩ | ⟨hb, a, hX⟩ <;> rcases hY with ⟨hb', hY⟩ | ⟨hb', a', hY⟩ <;> subst hX <;> subst hY
      · rw [hb, hb'] at key; exact key true (by first | rfl | simp [eqGuard]) (by first | rfl | simp only [binOp]) (by first | rfl | simp only [binOp]) (fun w => eq_pn (hu w) none)
      · rw [hb, hb'] at key; exact key true (by first | rfl | simp [eqGuard]) (by first | rfl | simp only [binOp]) (by first | rfl | simp only [binOp]) (fun w => eq_pn (hu w) _)
      · rw [hb, hb'] at key; exact key true (by first | rfl | simp [eqGuard]) (by first | rfl | simp only [binOp]) (by first | rfl | simp only [binOp]) (fun w => eq_np (hu w) _)
      · rw [hb, hb'] at hor; simp at hor
    · obtain ⟨e, hd⟩ := hd.2.1 h0
      subst hd
      rcases hX with ⟨hb, hX⟩ | ⟨hb, a, n, c', hX⟩ <;> rcases hY with ⟨hb', hY⟩ | ⟨hb', a', n', c'', hY⟩ <;> subst hX <;> subst hY
      · rw [hb, hb'] at key; exact key true (by first | rfl | simp [eqGuard]) (by first | rfl | simp only [binOp]) (by first | rfl | simp only [binOp]) (fun w => eq_sn (hu w) none 0 0 0 0)
      · rw [hb, hb'] at key; exact key true (by first | rfl | simp [eqGuard]) (by first | rfl | simp only [binOp]) (by first | rfl | simp only [binOp]) (fun w => eq_sn (hu w) _ _ _ 0 0)
      · rw [hb, hb'] at key; exact key true (by first | rfl | simp [eqGuard]) (by first | rfl | simp only [binOp]) (by first | rfl | simp only [binOp]) (fun w => eq_ns (hu w) _ _ _ 0 0)
      · rw [hb, hb'] at hor; simp at hor
    · obtain ⟨e, e', e'', hd⟩ := hd.2.2.1 h0
      subst hd
      rcases hX with ⟨hb, hX⟩ | ⟨hb, a, n, c', hX⟩ <;> rcases hY with ⟨hb', hY⟩ | ⟨hb', a', n', c'', hY⟩ <;> subst hX <;> subst hY
      · rw [hb, hb'] at key; exact key true (by first | rfl | simp [eqGuard]) (by first | rfl | simp only [binOp]) (by first | rfl | simp only [binOp]) (fun w => eq_ff (hu w))
      · rw [hb, hb'] at key; exact key true (by first | rfl | simp [eqGuard]) (by first | rfl | simp only [binOp]) (by first | rfl | simp only [binOp]) (fun w => eq_fg (hu w) _ _ _)
      · rw [hb, hb'] at key; exact key true (by first | rfl | simp [eqGuard]) (by first | rfl | simp only [binOp]) (by first | rfl | simp only [binOp]) (fun w => eq_gf (hu w) _ _ _)
      · rw [hb, hb'] at hor; simp at hor
    · obtain ⟨e, hd⟩ := hd.2.2.2.1 h0
      subst hd
      rcases hX with ⟨hb, hX⟩ | ⟨hb, a, n, hX⟩ <;> rcases hY with ⟨hb', hY⟩ | ⟨hb', a', n', hY⟩ <;> subst hX <;> subst hY
      · rw [hb, hb'] at key; exact key true (by first | rfl | simp [eqGuard]) (by first | rfl | simp only [binOp]) (by first | rfl | simp only [binOp]) (fun w => eq_ii (hu w))
      · rw [hb, hb'] at key; exact key true (by first | rfl | simp [eqGuard]) (by first | rfl | simp only [binOp]) (by first | rfl | simp only [binOp]) (fun w => eq_ij (hu w) _ _)
      · rw [hb, hb'] at key; exact key true (by first | rfl | simp [eqGuard]) (by first | rfl | simp only [binOp]) (by first | rfl | simp only [binOp]) (fun w => eq_ji (hu w) _ _)
      · rw [hb, hb'] at hor; simp at hor
  cases x
  case int k a =>
    cases hx
    obtain ⟨q, hq, h2⟩ := ob_some (show ob (asInt y) _ = some v from h)
    clear h hN
    have := asInt_eq hq
    subst this
    cases hy
    cases hs : shiftOp op with
    | none =>
      rw [hs] at h2
      obtain ⟨h1, h3⟩ := ch_some (show ch _ _ = some v from h2)
      have := kindEq_eq h1
      rw [← this]
      exact intOp_ok ω h3 hs t xo yo
    | some l =>
      rw [hs] at h2
      exact shiftA_ok ω hs (show shiftA _ _ _ _ = some v from h2) t xo yo
  case opq k a =>
    cases hx
    obtain ⟨q, hq, h2⟩ := ob_some (show ob (asOpq y) _ = some v from h)
    clear h hN
    have := asOpq_eq hq
    subst this
    cases hy
    obtain ⟨h1, h3⟩ := ch_some h2
    have := kindEq_eq h1
    rw [← this]
    have he : (ω a == ω q.2) = (a == q.2) := by
      cases a <;> cases q.2 <;> simp [hω, Ne.symm hω]
    rcases eqlOp_ok h3 with ⟨rfl, rfl⟩ | ⟨rfl, rfl⟩
    · exact ⟨_, rfl, fun w => by simp [eqGuard, binOp, Op.intCmp, he]⟩
    · refine ⟨_, rfl, fun w => ?_⟩
      have he' : (ω a != ω q.2) = !(a == q.2) := by rw [bne, he]
      simp [eqGuard, binOp, Op.intCmp, he']
  case bool a =>
    cases hx
    obtain ⟨g, hg, h2⟩ := ob_some (show ob (tagT t) _ = some v from h)
    clear h hN
    obtain ⟨h0, h3⟩ := ch_some h2
    obtain ⟨b, hb, h4⟩ := ob_some h3
    have := asBool_eq hb
    subst this
    cases hy
    obtain ⟨i, I, d, z, hT, hk⟩ := tagT_ok ω hg
    have hd := (chkK_tag hT.kk).2.2.2.2.1 (hk.trans (nbeq h0))
    subst hd
    have hu := hT.run_und ω
    rcases eqlOp_ok h4 with ⟨rfl, rfl⟩ | ⟨rfl, rfl⟩
    · exact ⟨_, rfl, fun w => by simp [eqGuard, binOp, eq_bb (hu w)]⟩
    · exact ⟨_, rfl, fun w => by simp [eqGuard, binOp, eq_bb (hu w)]⟩
  case str a =>
    cases hx
    obtain ⟨b, hb, h4⟩ := ob_some (show ob (asStr y) _ = some v from h)
    clear h hN
    have := asStr_eq hb
    subst this
    cases hy
    rcases eqlOp_ok h4 with ⟨rfl, rfl⟩ | ⟨rfl, rfl⟩
    · exact ⟨_, rfl, fun w => by simp [eqGuard, binOp, Op.stringOp, be]⟩
    · exact ⟨_, rfl, fun w => by simp [eqGuard, binOp, Op.stringOp, be]⟩
  all_goals exact hN h
end
end Go.Proofs.YtenadfoomejmkaaGreatDoor.Eng
