import Derived.Test.YtenadfoomejmkaaGreatDoorSndU
/- The engine's soundness, twenty-first part: what an operation looks at. -/
namespace Go.Proofs.YtenadfoomejmkaaGreatDoor.Eng
open Go
set_option linter.unusedSimpArgs false
set_option linter.unusedVariables false
def SameCls : Cls → Fr → Fr → Prop
  | .pure f, T, T' => f T = f T'
  | .slice f, T, T' => f T = f T'
  | .read f, T, T' => f T = f T'
  | .make f, T, T' => f T = f T'
  | .loud f, T, T' => ∀ run, f run T = f run T'
  | .bad, _, _ => True
theorem mem_tmpsOf {t : Nat} : ∀ {l : List Operand}, .tmp t ∈ l → t ∈ tmpsOf l
  | [], h => by cases h
  | x :: r, h => by
    rcases List.mem_cons.1 h with h | h
    · subst h; exact List.mem_cons_self
    · have := mem_tmpsOf h
      cases x <;> first | exact List.mem_cons_of_mem _ this | exact this
theorem evo_same {T T' : Fr} {x : Operand} (h : ∀ t, x = .tmp t → slot t T = slot t T') : evo x T = evo x T' := by
  cases x
  case tmp t => exact h t rfl
  all_goals rfl
section
variable {T T' : Fr}
theorem evl_same : ∀ {l : List Operand}, (∀ x ∈ l, evo x T = evo x T') → evl l T = evl l T'
  | [], _ => rfl
  | x :: r, h => by
    have h1 := h x List.mem_cons_self
    have h2 := evl_same (l := r) fun y hy => h y (List.mem_cons_of_mem _ hy)
    show ob (evo x T) (fun a => ob (evl r T) fun l => some (a :: l)) = ob (evo x T') (fun a => ob (evl r T') fun l => some (a :: l))
    rw [h1, h2]
theorem evp_same : ∀ {l : List (Nat × Operand)}, (∀ x ∈ l.map (·.2), evo x T = evo x T') → evp T l = evp T' l
  | [], _ => rfl
  | x :: r, h => by
    have h1 := h x.2 List.mem_cons_self
    have h2 := evp_same (l := r) fun y hy => h y (List.mem_cons_of_mem _ hy)
    show ob (evo x.2 T) (fun a => ob (evp T r) fun l => some ((x.1, a) :: l)) = ob (evo x.2 T') (fun a => ob (evp T' r) fun l => some ((x.1, a) :: l))
    rw [h1, h2]
theorem bnd_same {o : Option Operand} (h : ∀ x, o = some x → evo x T = evo x T') : bnd o T = bnd o T' := by
  cases o with
  | none => rfl
  | some x =>
    show ob (evo x T) (fun v => ob (asNat v) fun n => some (some n)) = ob (evo x T') (fun v => ob (asNat v) fun n => some (some n))
    rw [h x rfl]
theorem cls_evo {op : Op} (h : ∀ x ∈ op.operands, evo x T = evo x T') : SameCls (cls op) T T' := by
  cases op <;> simp only [Op.operands] at h
  case move x => exact h x (by simp)
  case assign x => exact h x (by simp)
  case pick c a b =>
    show ob (evo c T) _ = ob (evo c T') _
    rw [h c (by simp), h a (by simp), h b (by simp)]
  case alloc t => rfl
  case box t x =>
    show ob (evo x T) _ = ob (evo x T') _
    rw [h x (by simp)]
  case build t ps =>
    have := evp_same (T := T) (T' := T') (l := ps.toList) fun x hx => h x (by simpa using hx)
    show buildP t ps.toList T = buildP t ps.toList T'
    unfold buildP
    rw [this]
  case buildSlice t n ps =>
    have := evp_same (T := T) (T' := T') (l := ps.toList) fun x hx => h x (by simpa using hx)
    show bsliceM t n ps.toList T = bsliceM t n ps.toList T'
    unfold bsliceM
    rw [this]
  case load t a =>
    show (fun H => ob (evo a T) _) = (fun H => ob (evo a T') _)
    rw [h a (by simp)]
  case store t a x =>
    intro run
    show (fun H => ob (evo a T) fun p => ob (evo x T) _) = (fun H => ob (evo a T') fun p => ob (evo x T') _)
    rw [h a (by simp), h x (by simp)]
  case nilCheck x =>
    show ob (evo x T) _ = ob (evo x T') _
    rw [h x (by simp)]
  case binOp op t x y c =>
    show ob (evo x T) (fun a => ob (evo y T) _) = ob (evo x T') (fun a => ob (evo y T') _)
    rw [h x (by simp), h y (by simp)]
  case unOp op t x =>
    show ob (evo x T) _ = ob (evo x T') _
    rw [h x (by simp)]
  case convert s d x =>
    have hx := h x (by simp)
    show SameCls (clsV s d x) T T'
    unfold clsV
    split
    · intro run
      show (fun H => ob (elemT d) fun e => ch (isU8 e.k) (ob (tyG s) fun _ => ob (evo x T) fun v => bytesL v H)) = (fun H => ob (elemT d) fun e => ch (isU8 e.k) (ob (tyG s) fun _ => ob (evo x T') fun v => bytesL v H))
      rw [hx]
    · show (ob (tyG s) fun _ => ob (evo x T) (convP d)) = (ob (tyG s) fun _ => ob (evo x T') (convP d))
      rw [hx]
  case makeInterface t x =>
    have hx := h x (by simp)
    show (ob (tyG t) fun i => ch (tagI i.k) (ob (evo x T) fun v => some (AV.ifc t v))) = (ob (tyG t) fun i => ch (tagI i.k) (ob (evo x T') fun v => some (AV.ifc t v)))
    rw [hx]
  case makeFunc f a c =>
    have h1 := evl_same (T := T) (T' := T') (l := a.toList) fun x hx => h x (by simp at hx ⊢; exact .inl hx)
    have h2 := evl_same (T := T) (T' := T') (l := c.toList) fun x hx => h x (by simp at hx ⊢; exact .inr hx)
    show ob (evl a.toList T) (fun a => ob (evl c.toList T) _) = ob (evl a.toList T') (fun a => ob (evl c.toList T') _)
    rw [h1, h2]
  case makeMap t x => rfl
  case makeSlice t x y =>
    show msliceM t x y T = msliceM t x y T'
    unfold msliceM
    rw [h x (by simp), h y (by simp)]
  case slice t x lo hi mx =>
    show sliceP t x lo hi mx T = sliceP t x lo hi mx T'
    funext nid
    unfold sliceP
    rw [h x (by simp), bnd_same (o := lo) fun y hy => h y (by subst hy; simp), bnd_same (o := hi) fun y hy => h y (by subst hy; simp), bnd_same (o := mx) fun y hy => h y (by subst hy; simp)]
  case fieldAddr t x f =>
    show ob (evo x T) _ = ob (evo x T') _
    rw [h x (by simp)]
  case field t x f =>
    show ob (evo x T) _ = ob (evo x T') _
    rw [h x (by simp)]
  case indexAddr t x y =>
    show ob (evo x T) (fun v => ob (evo y T) _) = ob (evo x T') (fun v => ob (evo y T') _)
    rw [h x (by simp), h y (by simp)]
  case index t x y =>
    show ob (evo x T) (fun v => ob (evo y T) _) = ob (evo x T') (fun v => ob (evo y T') _)
    rw [h x (by simp), h y (by simp)]
  case lookup t m k ok =>
    show (fun H => ob (evo m T) fun a => ob (evo k T) _) = (fun H => ob (evo m T') fun a => ob (evo k T') _)
    rw [h m (by simp), h k (by simp)]
  case mapUpdate t m k x =>
    intro run
    show (fun H => ob (evo m T) fun a => ob (evo k T) fun b => ob (evo x T) _) = (fun H => ob (evo m T') fun a => ob (evo k T') fun b => ob (evo x T') _)
    rw [h m (by simp), h k (by simp), h x (by simp)]
  case extract x i =>
    show ob (evo x T) _ = ob (evo x T') _
    rw [h x (by simp)]
  case call c =>
    simp only [Call.operands] at h
    have ha := evl_same (T := T) (T' := T') (l := c.args.toList) fun x hx => h x (by simp at hx ⊢; exact .inr hx)
    show SameCls (clsC c) T T'
    unfold clsC
    split
    · rename_i f hf
      intro run
      rw [hf] at h
      show (fun H => ob (evo f T) fun v => ob (evl c.args.toList T) _) = (fun H => ob (evo f T') fun v => ob (evl c.args.toList T') _)
      rw [h f (by simp), ha]
    · rename_i r name hf
      intro run
      rw [hf] at h
      show (fun H => ob (evo r T) fun v => ob (asIfc v) fun q => ob (evl c.args.toList T) fun l => invA run name l H q) = (fun H => ob (evo r T') fun v => ob (asIfc v) fun q => ob (evl c.args.toList T') fun l => invA run name l H q)
      rw [h r (by simp), ha]
    · rename_i b hb
      cases b
      case len =>
        show (ob (c.argTypes[0]?) fun t => ob (tagT t) fun g => ob (evl c.args.toList T) (lenP g)) = (ob (c.argTypes[0]?) fun t => ob (tagT t) fun g => ob (evl c.args.toList T') (lenP g))
        rw [ha]
      case min =>
        show ob (evl c.args.toList T) minP = ob (evl c.args.toList T') minP
        rw [ha]
      case append =>
        intro run
        funext H
        simp only [ha]
      case clear =>
        intro run
        funext H
        simp only [ha]
      all_goals trivial
  all_goals trivial
theorem cls_same {op : Op} (h : ∀ t ∈ tmpsOf op.operands.toList, slot t T = slot t T') : SameCls (cls op) T T' :=
  cls_evo fun x hx => evo_same fun t ht => h t (mem_tmpsOf (by subst ht; simpa using hx))
end
end Go.Proofs.YtenadfoomejmkaaGreatDoor.Eng
