import Derived.Test.YtenadfoomejmkaaGreatDoorEng
import Derived.CallsIn
import Derived.OrdersIn
import Derived.RangeFuncLeaves
import Derived.Laws.Cells
import Derived.Lib.FrozenHead
import Derived.TacticsIn
/- The engine's soundness, first part: what its values and its memory stand for. -/
namespace Go.Proofs.YtenadfoomejmkaaGreatDoor.Eng
open Go
set_option linter.unusedSimpArgs false
set_option linter.unusedVariables false
theorem brec {β : Type} (b : Bool) (x y : β) : (Bool.rec (motive := fun _ => β) y x b : β) = if b = true then x else y := by cases b <;> rfl
theorem ite2_eq {β : Type} (b : Bool) (x y : β) : ite2 b x y = if b = true then x else y := by cases b <;> rfl
theorem ob_some {α β : Type} {o : Option α} {f : α → Option β} {b : β} (h : ob o f = some b) : ∃ a, o = some a ∧ f a = some b := by
  cases o with
  | none => cases h
  | some a => exact ⟨a, rfl, h⟩
theorem ch_some {β : Type} {b : Bool} {x : Option β} {y : β} (h : ch b x = some y) : b = true ∧ x = some y := by
  cases b with
  | false => cases h
  | true => exact ⟨rfl, h⟩
theorem nbeq {a b : Nat} (h : Nat.beq a b = true) : a = b := Nat.eq_of_beq_eq_true h
theorem nblt {a b : Nat} (h : Nat.blt a b = true) : a < b := Nat.le_of_ble_eq_true h
theorem nbeqI (a b : Nat) : (Nat.beq a b = true) = (a = b) := propext ⟨nbeq, fun h => by subst h; exact Nat.beq_refl a⟩
theorem nble {a b : Nat} (h : Nat.ble a b = true) : a ≤ b := Nat.le_of_ble_eq_true h
/-! ### tries -/
section
variable {α : Type}
theorem get_nil (n : Nat) : (Tr.nil : Tr α).get n = none := rfl
theorem get_node (v : Option α) (l r : Tr α) (n : Nat) : (Tr.node v l r).get n = if n = 0 then v else if n % 2 = 1 then l.get (n / 2) else r.get (n / 2 - 1) := by
  show (Bool.rec (motive := fun _ => Option α) (Bool.rec (motive := fun _ => Option α) (r.get (Nat.pred (n / 2))) (l.get (n / 2)) (Nat.beq (n % 2) 1)) v (Nat.beq n 0) : Option α) = _
  rw [brec, brec]
  simp only [nbeqI, Nat.pred_eq_sub_one]
theorem put_zero (f : Nat) (v : Option α) (t : Tr α) : Tr.put (f + 1) 0 v t = Tr.node0 v t := rfl
theorem put_nil (f n : Nat) (v : Option α) (h : n ≠ 0) : Tr.put (f + 1) n v .nil = if n % 2 = 1 then .node none (Tr.put f (n / 2) v .nil) .nil else .node none .nil (Tr.put f (n / 2 - 1) v .nil) := by
  show (Bool.rec (motive := fun _ => Tr α) (Bool.rec (motive := fun _ => Tr α) (.node none .nil (Tr.put f (Nat.pred (n / 2)) v .nil)) (.node none (Tr.put f (n / 2) v .nil) .nil) (Nat.beq (n % 2) 1)) (Tr.node0 v .nil) (Nat.beq n 0) : Tr α) = _
  rw [brec, brec]
  simp only [nbeqI, Nat.pred_eq_sub_one, h, if_false]
theorem put_node (f n : Nat) (v u : Option α) (l r : Tr α) (h : n ≠ 0) : Tr.put (f + 1) n v (.node u l r) = if n % 2 = 1 then .node u (Tr.put f (n / 2) v l) r else .node u l (Tr.put f (n / 2 - 1) v r) := by
  show (Bool.rec (motive := fun _ => Tr α) (Bool.rec (motive := fun _ => Tr α) (.node u l (Tr.put f (Nat.pred (n / 2)) v r)) (.node u (Tr.put f (n / 2) v l) r) (Nat.beq (n % 2) 1)) (Tr.node0 v (.node u l r)) (Nat.beq n 0) : Tr α) = _
  rw [brec, brec]
  simp only [nbeqI, Nat.pred_eq_sub_one, h, if_false]
theorem get_put_self : ∀ (f n : Nat) (v : Option α) (t : Tr α), n + 1 < 2 ^ f → (Tr.put f n v t).get n = v := by
  intro f
  induction f with
  | zero => intro n v t h; simp at h
  | succ f ih =>
    intro n v t h
    by_cases hn : n = 0
    · subst hn; rw [put_zero]; cases t <;> rfl
    · have h2 : 2 ^ (f + 1) = 2 * 2 ^ f := by rw [Nat.pow_succ]; omega
      cases t with
      | nil =>
        rw [put_nil f n v hn]
        split
        · rename_i ho; rw [get_node, if_neg hn, if_pos ho]; exact ih _ _ _ (by omega)
        · rename_i ho; rw [get_node, if_neg hn, if_neg ho]; exact ih _ _ _ (by omega)
      | node u l r =>
        rw [put_node f n v u l r hn]
        split
        · rename_i ho; rw [get_node, if_neg hn, if_pos ho]; exact ih _ _ _ (by omega)
        · rename_i ho; rw [get_node, if_neg hn, if_neg ho]; exact ih _ _ _ (by omega)
theorem get_put_ne : ∀ (f n m : Nat) (v : Option α) (t : Tr α), m ≠ n → (Tr.put f n v t).get m = t.get m := by
  intro f
  induction f with
  | zero => intro n m v t h; rfl
  | succ f ih =>
    intro n m v t h
    by_cases hn : n = 0
    · subst hn
      rw [put_zero]
      cases t with
      | nil => show (Tr.node v .nil .nil).get m = _; rw [get_node, if_neg h]; split <;> rfl
      | node u l r => show (Tr.node v l r).get m = _; rw [get_node, get_node, if_neg h, if_neg h]
    · cases t with
      | nil =>
        rw [put_nil f n v hn]
        split
        · rename_i ho
          rw [get_node]
          split
          · rfl
          · split
            · rw [ih _ _ _ _ (by omega)]; rfl
            · rfl
        · rename_i ho
          rw [get_node]
          split
          · rfl
          · split
            · rfl
            · rw [ih _ _ _ _ (by omega)]; rfl
      | node u l r =>
        rw [put_node f n v u l r hn]
        split
        · rename_i ho
          rw [get_node, get_node]
          split
          · rfl
          · split
            · rw [ih _ _ _ _ (by omega)]
            · rfl
        · rename_i ho
          rw [get_node, get_node]
          split
          · rfl
          · split
            · rfl
            · rw [ih _ _ _ _ (by omega)]
theorem get_put (n m : Nat) (v : Option α) (t : Tr α) (h : n < lim) : (Tr.put dep n v t).get m = if m = n then v else t.get m := by
  split
  · rename_i e; subst e; exact get_put_self _ _ _ _ (by unfold lim at h; unfold dep; omega)
  · rename_i e; exact get_put_ne _ _ _ _ _ e
end
/-! ### what values stand for -/
structure Ent where
  blk : Nat
  sh : Nat
  cap : Nat
  esz : Nat
abbrev Phi := Nat → Option Ent
section
variable (ω : Bool → Int)
def fnC (φ : Phi) : Fn → Option Fn
  | .func f => some (.func f)
  | .yield l => (φ l).map fun e => .yield e.blk
  | _ => none
def capC (e : Ent) (len : Nat) : Cap → Option Nat
  | .known c => if len ≤ c then some c else none
  | .unk k z => if e.esz = z ∧ len ≤ e.cap - k then some (e.cap - k) else none
mutual
def conc (φ : Phi) : AV → Option Value
  | .undef => some (.tuple #[])
  | .bool b => some (.bool b)
  | .int k n => some (.int k n)
  | .opq k i => some (.int k (ω i))
  | .str s => some (.string s)
  | .ptr id off => (φ id).map fun e => .pointer (some ⟨e.blk, e.sh + off, none⟩)
  | .nilP => some (.pointer none)
  | .slc id off len cap => (φ id).bind fun e => (capC e len cap).map fun c => .slice (some ⟨e.blk, e.sh + off, none⟩) len c
  | .nilS => some (.slice none 0 0)
  | .map id => (φ id).map fun e => .map (some e.blk)
  | .nilM => some (.map none)
  | .fn f a c => (fnC φ f).bind fun f => (concL φ a).bind fun a => (concL φ c).map fun c => .func f a.toArray c.toArray
  | .nilF => some .nilFunc
  | .ifc t v => (conc φ v).map fun v => .iface t v
  | .nilI => some .nilIface
  | .agg l => (concL φ l).map fun l => .agg l.toArray
  | .tup l => (concL φ l).map fun l => .tuple l.toArray
def concL (φ : Phi) : List AV → Option (List Value)
  | [] => some []
  | a :: r => (conc φ a).bind fun x => (concL φ r).map fun l => x :: l
end
/-- more names -/
def Ext (φ φ' : Phi) : Prop := ∀ id e, φ id = some e → φ' id = some e
theorem fnC_mono {φ φ' : Phi} (h : Ext φ φ') {f g : Fn} (hf : fnC φ f = some g) : fnC φ' f = some g := by
  cases f with
  | yield l =>
    simp only [fnC, Option.map_eq_some_iff] at hf ⊢
    obtain ⟨e, he, rfl⟩ := hf
    exact ⟨e, h _ _ he, rfl⟩
  | _ => exact hf
mutual
theorem conc_mono {φ φ' : Phi} (h : Ext φ φ') : ∀ (v : AV) (x : Value), conc ω φ v = some x → conc ω φ' v = some x
  | .undef, _, hx => hx
  | .bool _, _, hx => hx
  | .int _ _, _, hx => hx
  | .opq _ _, _, hx => hx
  | .str _, _, hx => hx
  | .ptr id off, x, hx => by
    simp only [conc, Option.map_eq_some_iff] at hx ⊢
    obtain ⟨e, he, hx⟩ := hx
    exact ⟨e, h _ _ he, hx⟩
  | .nilP, _, hx => hx
  | .slc id off len cap, x, hx => by
    simp only [conc, Option.bind_eq_some_iff] at hx ⊢
    obtain ⟨e, he, hx⟩ := hx
    exact ⟨e, h _ _ he, hx⟩
  | .nilS, _, hx => hx
  | .map id, x, hx => by
    simp only [conc, Option.map_eq_some_iff] at hx ⊢
    obtain ⟨e, he, hx⟩ := hx
    exact ⟨e, h _ _ he, hx⟩
  | .nilM, _, hx => hx
  | .fn f a c, x, hx => by
    simp only [conc, Option.bind_eq_some_iff, Option.map_eq_some_iff] at hx ⊢
    obtain ⟨g, hg, a', ha, c', hc, hx⟩ := hx
    exact ⟨g, fnC_mono h hg, a', concL_mono h a a' ha, c', concL_mono h c c' hc, hx⟩
  | .nilF, _, hx => hx
  | .ifc t v, x, hx => by
    simp only [conc, Option.map_eq_some_iff] at hx ⊢
    obtain ⟨y, hy, hx⟩ := hx
    exact ⟨y, conc_mono h v y hy, hx⟩
  | .nilI, _, hx => hx
  | .agg l, x, hx => by
    simp only [conc, Option.map_eq_some_iff] at hx ⊢
    obtain ⟨y, hy, hx⟩ := hx
    exact ⟨y, concL_mono h l y hy, hx⟩
  | .tup l, x, hx => by
    simp only [conc, Option.map_eq_some_iff] at hx ⊢
    obtain ⟨y, hy, hx⟩ := hx
    exact ⟨y, concL_mono h l y hy, hx⟩
theorem concL_mono {φ φ' : Phi} (h : Ext φ φ') : ∀ (l : List AV) (x : List Value), concL ω φ l = some x → concL ω φ' l = some x
  | [], _, hx => hx
  | a :: r, x, hx => by
    simp only [concL, Option.bind_eq_some_iff, Option.map_eq_some_iff] at hx ⊢
    obtain ⟨y, hy, l, hl, hx⟩ := hx
    exact ⟨y, conc_mono h a y hy, l, concL_mono h r l hl, hx⟩
end
theorem concL_nil {φ : Phi} {x : List Value} (h : concL ω φ [] = some x) : x = [] := by simpa [concL] using h.symm
theorem concL_cons {φ : Phi} {a : AV} {r : List AV} {x : List Value} (h : concL ω φ (a :: r) = some x) : ∃ y l, conc ω φ a = some y ∧ concL ω φ r = some l ∧ x = y :: l := by
  simp only [concL, Option.bind_eq_some_iff, Option.map_eq_some_iff] at h
  obtain ⟨y, hy, l, hl, hx⟩ := h
  exact ⟨y, l, hy, hl, hx.symm⟩
theorem concL_mk {φ : Phi} {a : AV} {r : List AV} {y : Value} {l : List Value} (h1 : conc ω φ a = some y) (h2 : concL ω φ r = some l) : concL ω φ (a :: r) = some (y :: l) := by
  simp [concL, h1, h2]
theorem concL_length {φ : Phi} : ∀ {l : List AV} {x : List Value}, concL ω φ l = some x → x.length = l.length
  | [], x, h => by rw [concL_nil ω h]; rfl
  | a :: r, x, h => by
    obtain ⟨y, l, _, hl, rfl⟩ := concL_cons ω h
    simp [concL_length hl]
theorem concL_append {φ : Phi} : ∀ {a b : List AV} {x y : List Value}, concL ω φ a = some x → concL ω φ b = some y → concL ω φ (a ++ b) = some (x ++ y)
  | [], b, x, y, h1, h2 => by rw [concL_nil ω h1]; exact h2
  | c :: r, b, x, y, h1, h2 => by
    obtain ⟨z, l, hz, hl, rfl⟩ := concL_cons ω h1
    exact concL_mk ω hz (concL_append hl h2)
theorem concL_get {φ : Phi} : ∀ {l : List AV} {x : List Value}, concL ω φ l = some x → ∀ (i : Nat) (v : AV), l[i]? = some v → ∃ y, conc ω φ v = some y ∧ x[i]? = some y
  | [], x, h, i, v, hv => by simp at hv
  | a :: r, x, h, i, v, hv => by
    obtain ⟨y, l, hy, hl, rfl⟩ := concL_cons ω h
    cases i with
    | zero => simp at hv; subst hv; exact ⟨y, hy, rfl⟩
    | succ i => simp at hv; obtain ⟨z, hz, hx⟩ := concL_get hl i v hv; exact ⟨z, hz, by simpa using hx⟩
theorem concL_of {φ : Phi} : ∀ {l : List AV} {x : List Value}, x.length = l.length → (∀ (i : Nat) (v : AV), l[i]? = some v → ∃ y, conc ω φ v = some y ∧ x[i]? = some y) → concL ω φ l = some x
  | [], x, hl, _ => by
    cases x with
    | nil => rfl
    | cons _ _ => simp at hl
  | a :: r, x, hl, h => by
    cases x with
    | nil => simp at hl
    | cons z t =>
      obtain ⟨y, hy, he⟩ := h 0 a rfl
      simp at he
      subst he
      exact concL_mk ω hy (concL_of (by simpa using hl) fun i v hv => by
        obtain ⟨y, hy, hx⟩ := h (i + 1) v (by simpa using hv)
        exact ⟨y, hy, by simpa using hx⟩)
/-- the cells of a value -/
theorem cells_conc {φ : Phi} {v : AV} {x : Value} (h : conc ω φ v = some x) : concL ω φ (cellsA v) = some x.cells.toList := by
  cases v
  case agg l =>
    simp only [conc, Option.map_eq_some_iff] at h
    obtain ⟨y, hy, rfl⟩ := h
    show concL ω φ l = _
    simpa [Value.cells] using hy
  all_goals
    refine concL_mk ω h rfl |>.trans ?_
    congr 1
    revert h
    simp only [conc, Option.map_eq_some_iff, Option.bind_eq_some_iff, Option.some.injEq]
    intro h
    first
      | (subst h; rfl)
      | (obtain ⟨_, _, rfl⟩ := h; rfl)
      | (obtain ⟨_, _, _, _, rfl⟩ := h; rfl)
      | (obtain ⟨_, _, _, _, _, _, rfl⟩ := h; rfl)
theorem scal_one {φ : Phi} {v : AV} {x : Value} (h : conc ω φ v = some x) (hs : scal v = true) : x.oneCell' = true := by
  cases v
  all_goals
    first
      | (exact absurd hs (by decide))
      | (exfalso; revert hs; exact fun h => Bool.noConfusion h)
      | skip
  all_goals
    revert h
    simp only [conc, Option.map_eq_some_iff, Option.bind_eq_some_iff, Option.some.injEq]
    intro h
    first
      | (subst h; rfl)
      | (obtain ⟨_, _, rfl⟩ := h; rfl)
      | (obtain ⟨_, _, _, _, rfl⟩ := h; rfl)
      | (obtain ⟨_, _, _, _, _, _, rfl⟩ := h; rfl)
theorem allScal_one {φ : Phi} : ∀ {l : List AV} {x : List Value}, concL ω φ l = some x → allScal l = true → ∀ v ∈ x, v.oneCell' = true
  | [], x, h, _, v, hv => by rw [concL_nil ω h] at hv; cases hv
  | a :: r, x, h, hs, v, hv => by
    obtain ⟨y, l, hy, hl, rfl⟩ := concL_cons ω h
    have hs' : scal a = true ∧ allScal r = true := by
      have : ite2 (scal a) (allScal r) false = true := hs
      rw [ite2_eq] at this
      split at this
      · exact ⟨‹_›, this⟩
      · cases this
    rcases List.mem_cons.1 hv with rfl | hv
    · exact scal_one ω hy hs'.1
    · exact allScal_one hl hs'.2 v hv
/-! ### lists of cells -/
theorem takeN_some : ∀ {n : Nat} {l x : List AV}, takeN n l = some x → x = l.take n ∧ n ≤ l.length
  | 0, l, x, h => by
    have : some [] = some x := h
    cases this
    exact ⟨rfl, Nat.zero_le _⟩
  | n + 1, [], x, h => by cases h
  | n + 1, a :: r, x, h => by
    obtain ⟨y, hy, hx⟩ := ob_some (o := takeN n r) h
    obtain ⟨h1, h2⟩ := takeN_some hy
    cases hx
    exact ⟨by simp [h1], by simp; omega⟩
theorem dropN_some : ∀ {n : Nat} {l x : List AV}, dropN n l = some x → x = l.drop n ∧ n ≤ l.length
  | 0, l, x, h => by
    have : some l = some x := h
    cases this
    exact ⟨rfl, Nat.zero_le _⟩
  | n + 1, [], x, h => by cases h
  | n + 1, a :: r, x, h => by
    obtain ⟨h1, h2⟩ := dropN_some (n := n) (l := r) h
    exact ⟨by simp [h1], by simp; omega⟩
theorem cut_some {l x : List AV} {off n : Nat} (h : cut l off n = some x) : x = (l.drop off).take n ∧ off + n ≤ l.length := by
  obtain ⟨y, hy, hx⟩ := ob_some h
  obtain ⟨h1, h2⟩ := dropN_some hy
  obtain ⟨h3, h4⟩ := takeN_some hx
  subst h1
  simp at h4
  exact ⟨h3, by omega⟩
theorem over_some : ∀ {x l y : List AV}, over x l = some y → y = x ++ l.drop x.length ∧ x.length ≤ l.length
  | [], l, y, h => by
    have : some l = some y := h
    cases this
    exact ⟨rfl, Nat.zero_le _⟩
  | a :: x, [], y, h => by cases h
  | a :: x, b :: l, y, h => by
    obtain ⟨z, hz, hy⟩ := ob_some (o := over x l) h
    obtain ⟨h1, h2⟩ := over_some hz
    cases hy
    exact ⟨by simp [h1], by simp; omega⟩
theorem paste_some : ∀ {off : Nat} {x l y : List AV}, paste off x l = some y → y = l.take off ++ x ++ l.drop (off + x.length) ∧ off + x.length ≤ l.length
  | 0, x, l, y, h => by
    obtain ⟨h1, h2⟩ := over_some (x := x) (l := l) h
    exact ⟨by simp [h1], by omega⟩
  | off + 1, x, [], y, h => by cases h
  | off + 1, x, b :: l, y, h => by
    obtain ⟨z, hz, hy⟩ := ob_some (o := paste off x l) h
    obtain ⟨h1, h2⟩ := paste_some hz
    cases hy
    exact ⟨by simp [h1, Nat.add_right_comm], by simp; omega⟩
end
end Go.Proofs.YtenadfoomejmkaaGreatDoor.Eng
