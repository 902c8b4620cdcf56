import Derived.Test.YtndmdlnmjamgkaaWLast
/- A region that draws its order and may be taken in the order of its text: one step that knows its own number, so that a walk repeats it. -/
namespace Go.Proofs.Ytndmdlnmjamgkaa.Lin
open Go.Proofs.YtndmdlnmjamgkaaW.PrintLast
/-- The first k of n. -/
def upto (n k : Nat) : Array Bool := ((List.range n).map (fun j => Nat.blt j k)).toArray
section
variable {P : Program} {ops : Array Oper} {Q : Exit → Act → World → Prop} {md : Region.Mode} {S : World → Prop} {ds : List Nat}
theorem start_n {id : Nat} {a : Act} {w : World} (n : Nat) (S : World → Prop) (hm : P.follows .mixedOrders = true) (hn : ops.size = n) (hl : Array.replicate n false = upto n 0) (hS : S w.drew)
    (h : S w.drew → wpAnyLast P .any ops Q S [] n (upto n 0) a w.drew) : (Code.region id ops true).wp P Q a w := start_ (upto n 0) hm hn hl hS h
theorem pure_n {n k k' : Nat} (c : Nat) {oi : Oper} {v : Value} {fuel : Nat} {a : Act} {w : World} (_hk : k + 1 = k') (hi : ops[k]? = some oi) (hN : oi.dst = some (c + k)) (hc : anyB md ops (upto n k) (upto n k') k = true)
    (hQ : ∀ c a w, Q (.panic c) (a.put oi.dst v) w → Q (.panic c) a w) (hy : Yields P ops oi v a) {a' : Act} (ha : a.put (some (c + k)) v = a')
    (h : wpAnyLast P md ops Q S ds fuel (upto n k') a' w) : wpAnyLast P md ops Q S ds (fuel + 1) (upto n k) a w := pure_ (upto n k') hi hN hc hQ hy ha h
theorem take_n {n k k' : Nat} (c : Nat) {oi : Oper} {v : Value} {fuel : Nat} {a : Act} {w : World} (_hk : k + 1 = k') (hi : ops[k]? = some oi) (hN : oi.dst = some (c + k)) (hc : takeB md ops ds (upto n k) (upto n k') k = true)
    (hQ : ∀ c a w, Q (.panic c) (a.put oi.dst v) w → Q (.panic c) a w) (hy : YieldsIf P ops S oi v a) (hS : S w) {a' : Act} (ha : a.put (some (c + k)) v = a')
    (h : wpAnyLast P md ops Q S ds fuel (upto n k') a' w) : wpAnyLast P md ops Q S ds (fuel + 1) (upto n k) a w := take_ (upto n k') hi hN hc hQ hy hS ha h
theorem one_n {n k k' : Nat} (c : Nat) {oi : Oper} {fuel : Nat} {a : Act} {w : World} (_hk : k + 1 = k') (hi : ops[k]? = some oi) (hN : oi.dst = some (c + k)) (hc : readyB md ops (upto n k) (upto n k') k = true) (hd : k ∉ ds)
    (h : ∀ K : Act → World → Prop, Shut (∀ a' w', S w' → (S w' → wpAnyLast P md ops Q S ds fuel (upto n k') a' w') → K a' w') → if Region.wanted oi (yielded ops a.tmps) = true then Oper.wp P oi a w K Q else K (a.put (some (c + k)) undef) w) :
    wpAnyLast P md ops Q S ds (fuel + 1) (upto n k) a w := one_ (upto n k') hi hN hc hd h
end
end Go.Proofs.Ytndmdlnmjamgkaa.Lin
