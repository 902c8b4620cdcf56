import Derived.Test.YtenadfoomejmkaaGreatDoorProg
import Derived.KernelRfl
/- The engine's data: values whose memory has names of its own; tries; tables. Definitions alone. -/
namespace Go.Proofs.YtenadfoomejmkaaGreatDoor.Eng
open Go
inductive Cap where
  | known (c : Nat)
  | unk (k z : Nat)
inductive AV where
  | undef
  | bool (b : Bool)
  | int (k : IntKind) (n : Int)
  | opq (k : IntKind) (i : Bool)
  | str (s : ByteArray)
  | ptr (id off : Nat)
  | nilP
  | slc (id off len : Nat) (cap : Cap)
  | nilS
  | map (id : Nat)
  | nilM
  | fn (f : Fn) (first captured : List AV)
  | nilF
  | ifc (t : Nat) (v : AV)
  | nilI
  | agg (l : List AV)
  | tup (l : List AV)
inductive Tr (α : Type) where
  | nil
  | node (v : Option α) (l r : Tr α)
noncomputable section
def ite2 {β : Type} (b : Bool) (x y : β) : β := Bool.rec (motive := fun _ => β) y x b
def Tr.get {α : Type} (t : Tr α) : Nat → Option α :=
  Tr.rec (motive := fun _ => Nat → Option α) (fun _ => none) (fun v _ _ gl gr n => Bool.rec (motive := fun _ => Option α) (Bool.rec (motive := fun _ => Option α) (gr (Nat.pred (Nat.div n 2))) (gl (Nat.div n 2)) (Nat.beq (Nat.mod n 2) 1)) v (Nat.beq n 0)) t
def Tr.node0 {α : Type} (v : Option α) (t : Tr α) : Tr α := Tr.rec (motive := fun _ => Tr α) (.node v .nil .nil) (fun _ l r _ _ => .node v l r) t
def Tr.put {α : Type} (f : Nat) : Nat → Option α → Tr α → Tr α :=
  Nat.rec (motive := fun _ => Nat → Option α → Tr α → Tr α) (fun _ _ t => t) (fun _ ih n v t => Bool.rec (motive := fun _ => Tr α)
    (Bool.rec (motive := fun _ => Tr α) (Tr.rec (motive := fun _ => Tr α) (.node none .nil (ih (Nat.pred (Nat.div n 2)) v .nil)) (fun u l r _ _ => .node u l (ih (Nat.pred (Nat.div n 2)) v r)) t)
      (Tr.rec (motive := fun _ => Tr α) (.node none (ih (Nat.div n 2) v .nil) .nil) (fun u l r _ _ => .node u (ih (Nat.div n 2) v l) r) t) (Nat.beq (Nat.mod n 2) 1))
    (Tr.node0 v t) (Nat.beq n 0)) f
/-- a frame's slots: those that are kept, and those of the region that is walked -/
structure Fr where
  keep : Nat
  loc : List (Nat × AV)
  glob : Tr AV
def bitN (m i : Nat) : Bool := Nat.beq (Nat.land (Nat.shiftRight m i) 1) 1
def look (t : Nat) (l : List (Nat × AV)) : Option AV := List.rec (motive := fun _ => Option AV) none (fun p _ ih => Bool.rec (motive := fun _ => Option AV) ih (some p.2) (Nat.beq p.1 t)) l
def slot (t : Nat) (T : Fr) : Option AV := Fr.rec (motive := fun _ => Option AV) (fun k l g => Bool.rec (motive := fun _ => Option AV) (look t l) (g.get t) (bitN k t)) T
end
abbrev dep : Nat := 22
abbrev lim : Nat := 4000000
noncomputable def slotP (d : Nat) (v : AV) (T : Fr) : Fr := Fr.rec (motive := fun _ => Fr) (fun k l g => Bool.rec (motive := fun _ => Fr) ⟨k, (d, v) :: l, g⟩ ⟨k, l, Tr.put dep d (some v) g⟩ (bitN k d)) T
noncomputable def slotE (T : Fr) : Fr := Fr.rec (motive := fun _ => Fr) (fun k _ g => ⟨k, [], g⟩) T
inductive AObj where
  | cells (ro : Bool) (l : List AV)
  | map (es : List (AV × AV))
  | loop (st : LoopState) (pend : Option Code) (fn : Nat) (n : Nat) (T : Fr) (ps : List Nat) (asg body : Code)
  | dfr
inductive TyK where
  | int (k : IntKind) | slice (e : Nat) | struct (fs : List (Nat × Nat × Bool)) | arr (n e : Nat) | map (e : Nat) (b : Bool) | ptr | fn | ifc | boo | str | oth
structure Ty where
  k : TyK
  size : Nat
  agg : Bool
  zero : List AV
structure Fi where
  keep : Nat
  body : Code
  ntmps : Nat
  results : List ResultVar
/-- the memory -/
structure Hp where
  t : Tr AObj
  nx : Nat
structure St where
  T : Fr
  H : Hp
  ms : List Nat
inductive Ex where
  | nrm | ret | exit (id : Nat)
structure Env where
  fn : Nat
  n : Nat
  rnd : Bool
end Go.Proofs.YtenadfoomejmkaaGreatDoor.Eng
