import Derived.Test.YtenadfoomejmkaaGreatDoorSndB
/- The engine's soundness, third part: types, operands, what needs no memory. -/
namespace Go.Proofs.YtenadfoomejmkaaGreatDoor.Eng
open Go
set_option linter.unusedSimpArgs false
set_option linter.unusedVariables false
noncomputable abbrev PP : Program := Tryz.prog
/-! ### equality of values -/
theorem kindEq_eq {a b : IntKind} (h : kindEq a b = true) : a = b := by
  have h := nbeq h
  cases a <;> cases b <;> first | rfl | exact absurd h (by decide)
theorem eqF_eq {a b : Int} : eqF a b = true ↔ a = b := by
  cases a <;> cases b
  · rename_i m n; show Nat.beq m n = true ↔ _; rw [nbeqI]; exact ⟨fun h => by rw [h], fun h => by injection h⟩
  · rename_i m n; show false = true ↔ _; simp
  · rename_i m n; show false = true ↔ _; simp
  · rename_i m n; show Nat.beq n m = true ↔ _; rw [nbeqI]; exact ⟨fun h => by rw [h], fun h => by injection h with h; exact h.symm⟩
theorem eqF_dec (a b : Int) : eqF a b = (a == b) := by
  cases h : eqF a b with
  | true => rw [eqF_eq] at h; subst h; simp
  | false =>
    have : ¬ a = b := fun e => by rw [← eqF_eq, h] at e; cases e
    simp [this]
theorem ltF_lt {a b : Int} : ltF a b = true ↔ a < b := by
  cases a <;> cases b
  · rename_i m n; show Nat.ble (m + 1) n = true ↔ _; rw [Nat.ble_eq]; show _ ↔ ((m : Int) < (n : Int)); omega
  · rename_i m n; show false = true ↔ ((m : Int) < Int.negSucc n); simp; omega
  · rename_i m n; show true = true ↔ _; simp; omega
  · rename_i m n; show Nat.ble (n + 1) m = true ↔ _; rw [Nat.ble_eq]; omega
theorem ltF_dec (a b : Int) : ltF a b = decide (a < b) := by
  cases h : ltF a b with
  | true => rw [ltF_lt] at h; simp [h]
  | false =>
    have : ¬ a < b := fun e => by rw [← ltF_lt, h] at e; cases e
    simp [this]
theorem capEq_eq {a b : Cap} (h : capEq a b = true) : a = b := by
  cases a <;> cases b <;> simp only [capEq, Bool.and_eq_true, nbeqI] at h <;> first | (subst h; rfl) | (obtain ⟨rfl, rfl⟩ := h; rfl) | cases h
theorem fnEq_eq {a b : Fn} (h : fnEq a b = true) : a = b := by
  cases a <;> cases b <;> simp only [fnEq] at h <;> first | (rw [nbeqI] at h; subst h; rfl) | cases h
theorem str_eq {x y : ByteArray} (h : strEq x y = true) : x = y := by
  have h : x.data.toList = y.data.toList := eq_of_beq h
  cases x; cases y; simp at h; simp [h]
mutual
theorem beq_eq : ∀ (a b : AV), AV.beq a b = true → a = b := by
  intro a b h
  cases a <;> cases b <;> simp only [AV.beq, Bool.and_eq_true, nbeqI, Bool.false_eq_true] at h
  case undef.undef => rfl
  case bool.bool => simp at h; subst h; rfl
  case int.int => obtain ⟨h1, h2⟩ := h; rw [kindEq_eq h1, eqF_eq.1 h2]
  case opq.opq => obtain ⟨h1, h2⟩ := h; have := kindEq_eq h1; subst this; simp at h2; subst h2; rfl
  case str.str x y =>
    have : x = y := str_eq h
    subst this; rfl
  case ptr.ptr => obtain ⟨rfl, rfl⟩ := h; rfl
  case nilP.nilP => rfl
  case slc.slc => obtain ⟨⟨rfl, rfl⟩, rfl, h⟩ := h; rw [capEq_eq h]
  case nilS.nilS => rfl
  case map.map => subst h; rfl
  case nilM.nilM => rfl
  case fn.fn => obtain ⟨h1, h2, h3⟩ := h; rw [fnEq_eq h1, beqL_eq _ _ h2, beqL_eq _ _ h3]
  case nilF.nilF => rfl
  case ifc.ifc => obtain ⟨rfl, h2⟩ := h; rw [beq_eq _ _ h2]
  case nilI.nilI => rfl
  case agg.agg => rw [beqL_eq _ _ h]
  case tup.tup => rw [beqL_eq _ _ h]
theorem beqL_eq : ∀ (a b : List AV), AV.beqL a b = true → a = b := by
  intro a b h
  cases a <;> cases b <;> simp only [AV.beqL, Bool.and_eq_true, Bool.false_eq_true] at h
  · rfl
  · rw [beq_eq _ _ h.1, beqL_eq _ _ h.2]
end
noncomputable section
/-! ### types -/
def isAggD : TypeDesc → Bool
  | .struct _ => true
  | .array _ _ => true
  | _ => false
def chkF : List Field → List (Nat × Nat × Bool) → Bool
  | [], [] => true
  | f :: r, q :: s => (Nat.beq f.offset q.1 && (match PP.info? f.type, PP.underlying f.type with
    | some I, some d => Nat.beq I.size q.2.1 && (isAggD d == q.2.2)
    | _, _ => false)) && chkF r s
  | _, _ => false
def chkK : TypeDesc → TyK → Bool
  | .int k, .int j => kindEq k j
  | .slice e, .slice f => Nat.beq e f
  | .struct fs, .struct gs => chkF fs.toList gs
  | .array n e, .arr m f => Nat.beq n m && Nat.beq e f
  | .map k e, .map f b => Nat.beq e f && (if b = true then Nat.beq k 223 else Nat.beq k 3)
  | .pointer _, .ptr => true
  | .func _ _ _, .fn => true
  | .interface _, .ifc => true
  | .bool, .boo => true
  | .string, .str => true
  | _, .oth => true
  | _, _ => false
def chkZ : List Value → List AV → Bool
  | [], [] => true
  | v :: r, a :: s => (match avOf v with
    | some b => AV.beq b a
    | none => false) && chkZ r s
  | _, _ => false
def isAggV : Value → Bool
  | .agg _ => true
  | _ => false
def chkT (t : Nat) (i : Ty) : Bool :=
  match PP.info? t, PP.underlying t with
  | some I, some d => (Nat.beq I.size i.size && Nat.ble I.bytes 1000000) && ((match I.zero with
    | some z => chkZ z.cells.toList i.zero && (isAggV z == i.agg)
    | none => false) && (Nat.beq i.zero.length i.size && (chkK d i.k && (isAggD d == i.agg))))
  | _, _ => false
def allT {α : Type} : Tr α → (Nat → α → Bool) → Bool
  | .nil, _ => true
  | .node v l r, p => (match v with
    | some x => p 0 x
    | none => true) && (allT l (fun n => p (2 * n + 1)) && allT r (fun n => p (2 * n + 2)))
theorem allT_get {α : Type} : ∀ (t : Tr α) (p : Nat → α → Bool), allT t p = true → ∀ n v, t.get n = some v → p n v = true
  | .nil, p, _, n, v, hv => by cases hv
  | .node u l r, p, h, n, v, hv => by
    simp only [allT, Bool.and_eq_true] at h
    rw [get_node] at hv
    split at hv
    · rename_i hn; subst hn; subst hv; exact h.1
    · split at hv
      · have := allT_get l _ h.2.1 _ _ hv
        rwa [show 2 * (n / 2) + 1 = n by omega] at this
      · have := allT_get r _ h.2.2 _ _ hv
        rwa [show 2 * (n / 2 - 1) + 2 = n by omega] at this
end
theorem tyT_ok : allT tyT chkT = true := by kernel_rfl
section
variable (ω : Bool → Int)
theorem avOf_conc {v : Value} {a : AV} (h : avOf v = some a) (φ : Phi) : conc ω φ a = some v := by
  unfold avOf at h
  split at h <;> first | (cases h; rfl) | cases h
theorem chkZ_conc : ∀ {l : List Value} {a : List AV}, chkZ l a = true → ∀ φ, concL ω φ a = some l
  | [], [], _, φ => rfl
  | v :: r, a :: s, h, φ => by
    simp only [chkZ, Bool.and_eq_true] at h
    obtain ⟨h1, h2⟩ := h
    cases hv : avOf v with
    | none => rw [hv] at h1; cases h1
    | some b =>
      rw [hv] at h1
      have := beq_eq _ _ h1
      subst this
      exact concL_mk ω (avOf_conc ω hv φ) (chkZ_conc h2 φ)
  | [], _ :: _, h, _ => by cases h
  | _ :: _, [], h, _ => by cases h
/-- what is known of a type -/
structure TyOk (t : Nat) (i : Ty) (I : TypeInfo) (d : TypeDesc) (z : Value) : Prop where
  info : PP.info? t = some I
  und : PP.underlying t = some d
  size : I.size = i.size
  bytes : I.bytes ≤ 1000000
  zero : I.zero = some z
  zc : ∀ φ, concL ω φ i.zero = some z.cells.toList
  za : isAggV z = i.agg
  zl : i.zero.length = i.size
  kk : chkK d i.k = true
  ag : isAggD d = i.agg
theorem tyG_ok {t : Nat} {i : Ty} (h : tyG t = some i) : ∃ I d z, TyOk ω t i I d z := by
  have h := allT_get _ _ tyT_ok t i h
  unfold chkT at h
  split at h
  · rename_i I d hI hd
    simp only [Bool.and_eq_true, nbeqI, beq_iff_eq] at h
    obtain ⟨⟨h1, h2⟩, h3, h4, h5, h6⟩ := h
    split at h3
    · rename_i z hz
      simp only [Bool.and_eq_true, beq_iff_eq] at h3
      exact ⟨I, d, z, hI, hd, h1, nble h2, hz, chkZ_conc ω h3.1, h3.2, h4, h5, h6⟩
    · cases h3
  · cases h
section
variable {t : Nat} {i : Ty} {I : TypeInfo} {d : TypeDesc} {z : Value}
theorem TyOk.run_und (h : TyOk ω t i I d z) (w : World) : (underlying t).run PP w = .ok d w := run_underlying h.und w
theorem TyOk.run_info (h : TyOk ω t i I d z) (w : World) : (typeInfo t).run PP w = .ok I w := by simp [typeInfo, h.info]
theorem TyOk.run_size (h : TyOk ω t i I d z) (w : World) : (sizeOf t).run PP w = .ok i.size w := by simp [sizeOf, h.run_info ω, h.size]
theorem TyOk.run_zero (h : TyOk ω t i I d z) (w : World) : (zeroValue t).run PP w = .ok z w := by simp [zeroValue, h.run_info ω, h.zero]
theorem TyOk.run_agg (h : TyOk ω t i I d z) (w : World) : (isAgg t).run PP w = .ok i.agg w := by
  rw [← h.ag]
  simp only [isAgg, Sem.run_bind, h.run_und ω, Result.andThen_ok]
  cases d <;> rfl
theorem TyOk.zsize (h : TyOk ω t i I d z) : z.cells.size = i.size := by
  have := concL_length ω (h.zc (fun _ => none))
  rw [h.zl] at this
  simpa using this
end
/-! ### operands -/
def G0 (φ : Phi) : Prop := ∀ g, g < 2 → ∃ c z, φ g = some ⟨g, 0, c, z⟩
theorem evo_ok {φ : Phi} {T : Fr} {n : Nat} {a : Act} (hT : TRel ω φ T n a.tmps) (hg : G0 φ) {x : Operand} {v : AV} (h : evo x T = some v) : conc ω φ v = some (a.eval x) := by
  cases x with
  | tmp t => exact hT.slot t v h
  | const c => exact avOf_conc ω h φ
  | global g =>
    obtain ⟨h1, h2⟩ := ch_some h
    cases h2
    obtain ⟨c, z, hc⟩ := hg g (nblt h1)
    simp [conc, hc, Act.eval]
  | func f => cases h; rfl
theorem evl_ok {φ : Phi} {T : Fr} {n : Nat} {a : Act} (hT : TRel ω φ T n a.tmps) (hg : G0 φ) : ∀ {l : List Operand} {v : List AV}, evl l T = some v → concL ω φ v = some (l.map a.eval)
  | [], v, h => by
    have : some [] = some v := h
    cases this; rfl
  | x :: r, v, h => by
    obtain ⟨y, hy, h⟩ := ob_some (o := evo x T) h
    obtain ⟨s, hs, h⟩ := ob_some (o := evl r T) h
    cases h
    exact concL_mk ω (evo_ok ω hT hg hy) (evl_ok hT hg hs)
/-- the pairs of a literal -/
def PairsOk (φ : Phi) : List (Nat × AV) → List (Nat × Value) → Prop
  | [], [] => True
  | p :: r, q :: s => p.1 = q.1 ∧ conc ω φ p.2 = some q.2 ∧ PairsOk φ r s
  | _, _ => False
theorem evp_ok {φ : Phi} {T : Fr} {n : Nat} {a : Act} (hT : TRel ω φ T n a.tmps) (hg : G0 φ) : ∀ {l : List (Nat × Operand)} {v : List (Nat × AV)}, evp T l = some v → PairsOk ω φ v (l.map fun p => (p.1, a.eval p.2))
  | [], v, h => by
    have : some [] = some v := h
    cases this; trivial
  | x :: r, v, h => by
    obtain ⟨y, hy, h⟩ := ob_some (o := evo x.2 T) h
    obtain ⟨s, hs, h⟩ := ob_some (o := evp T r) h
    cases h
    exact ⟨rfl, evo_ok ω hT hg hy, evp_ok hT hg hs⟩
/-! ### projections -/
theorem asPtr_eq {v : AV} {p : Nat × Nat} (h : asPtr v = some p) : v = .ptr p.1 p.2 := by
  cases v
  case ptr a b => cases h; rfl
  all_goals exact nomatch (show none = some p from h)
theorem asBool_eq {v : AV} {p : Bool} (h : asBool v = some p) : v = .bool p := by
  cases v
  case bool b => cases h; rfl
  all_goals exact nomatch (show none = some p from h)
theorem asInt_eq {v : AV} {p : IntKind × Int} (h : asInt v = some p) : v = .int p.1 p.2 := by
  cases v
  case int a b => cases h; rfl
  all_goals exact nomatch (show none = some p from h)
theorem natI_eq {n : Int} {m : Nat} (h : natI n = some m) : n = (m : Int) := by
  cases n with
  | ofNat k => cases h; rfl
  | negSucc k => cases h
theorem asNat_eq {v : AV} {m : Nat} (h : asNat v = some m) : ∃ k, v = .int k (m : Int) := by
  obtain ⟨p, hp, h⟩ := ob_some h
  exact ⟨p.1, by rw [asInt_eq hp, natI_eq h]⟩
theorem asAgg_eq {v : AV} {p : List AV} (h : asAgg v = some p) : v = .agg p := by
  cases v
  case agg a => cases h; rfl
  all_goals exact nomatch (show none = some p from h)
theorem asTup_eq {v : AV} {p : List AV} (h : asTup v = some p) : v = .tup p := by
  cases v
  case tup a => cases h; rfl
  all_goals exact nomatch (show none = some p from h)
theorem asMap_eq {v : AV} {p : Nat} (h : asMap v = some p) : v = .map p := by
  cases v
  case map a => cases h; rfl
  all_goals exact nomatch (show none = some p from h)
theorem asIfc_eq {v : AV} {p : Nat × AV} (h : asIfc v = some p) : v = .ifc p.1 p.2 := by
  cases v
  case ifc a b => cases h; rfl
  all_goals exact nomatch (show none = some p from h)
theorem asStr_eq {v : AV} {p : ByteArray} (h : asStr v = some p) : v = .str p := by
  cases v
  case str a => cases h; rfl
  all_goals exact nomatch (show none = some p from h)
theorem asOpq_eq {v : AV} {p : IntKind × Bool} (h : asOpq v = some p) : v = .opq p.1 p.2 := by
  cases v
  case opq a b => cases h; rfl
  all_goals exact nomatch (show none = some p from h)
theorem asFn_eq {v : AV} {p : Fun} (h : asFn v = some p) : v = .fn p.f p.a p.c := by
  cases v
  case fn a b c => cases h; rfl
  all_goals exact nomatch (show none = some p from h)
def slcV : Option Slc → AV
  | none => .nilS
  | some x => .slc x.id x.off x.len x.cap
theorem asSlc_eq {v : AV} {p : Option Slc} (h : asSlc v = some p) : v = slcV p := by
  cases v
  case nilS => cases h; rfl
  case slc a b c d => cases h; rfl
  all_goals exact nomatch (show none = some p from h)
theorem one_eq {l : List AV} {v : AV} (h : one l = some v) : l = [v] := by
  unfold one at h
  split at h
  · cases h; rfl
  · cases h
theorem ofCells_ok {φ : Phi} {g : Bool} {l : List AV} {v : AV} {x : List Value} (h : ofCells g l = some v) (hx : concL ω φ l = some x) : conc ω φ v = some (if g = true then .agg x.toArray else x.headD undef) ∧ (g = false → x = [x.headD undef]) := by
  unfold ofCells at h
  rw [ite2_eq] at h
  cases g with
  | true =>
    rw [if_pos rfl] at h
    cases h
    simp [conc, hx]
  | false =>
    rw [if_neg (by decide)] at h
    have := one_eq h
    subst this
    obtain ⟨y, l, hy, hl, rfl⟩ := concL_cons ω hx
    have := concL_nil ω hl
    subst this
    simpa using hy
end
end Go.Proofs.YtenadfoomejmkaaGreatDoor.Eng
