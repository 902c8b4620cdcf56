import Derived.Test.YtbpmmabdjabfcaaScriptParse
/- The plain law: the reference's reading and the program's tell the same. No program in sight. -/
namespace Go.Proofs.Ytbpmmabdjabfcaa.Script
open Go.RowKit Go.Proofs.YtbpmmabdjabfcaaW.PrintWords Go.Proofs.YtbpmmabdjabfcaaW.PrintLast Go.Proofs.YtbpmmabdjabfcaaW.PrintMore Go.Proofs.Ytbpmmabdjabfcaa.Box Go.Proofs.Ytbpmmabdjabfcaa.PT Go.Proofs.Ytbpmmabdjabfcaa.Table
set_option linter.unusedSimpArgs false
set_option linter.unusedVariables false
/-! ### the reference's reading, in plain words -/
/-- The next word, the place and the error behind it. -/
def rnV (ws : List Int) (a : Nat) (e : Int) : Int := if e = 0 then (if a < ws.length then ws.getD a 0 else 0) else 0
def rnA (ws : List Int) (a : Nat) (e : Int) : Nat := if e = 0 then (if a < ws.length then a + 1 else a) else a
def rnE (ws : List Int) (a : Nat) (e : Int) : Int := if e = 0 then (if a < ws.length then 0 else 8) else e
def rcE (ws : List Int) (a : Nat) (e m : Int) : Int := if rnE ws a e = 0 then (if m < rnV ws a e then 7 else 0) else rnE ws a e
def rcV (ws : List Int) (a : Nat) (e m : Int) : Int := if rcE ws a e m = 0 then rnV ws a e else 0
/-- A place and an error, as a state; the next word's. -/
structure Pl where
  a : Nat
  e : Int
def plN (ws : List Int) (p : Pl) : Pl := ⟨rnA ws p.a p.e, rnE ws p.a p.e⟩
def plV (ws : List Int) (p : Pl) : Int := rnV ws p.a p.e
def plC (ws : List Int) (p : Pl) (m : Int) : Pl := ⟨rnA ws p.a p.e, rcE ws p.a p.e m⟩
/-- So many words on. -/
def plL (ws : List Int) : Nat → Pl → List Int × Pl
  | 0, p => ([], p)
  | n + 1, p => (plV ws p :: (plL ws n (plN ws p)).1, (plL ws n (plN ws p)).2)
def rrP (ws : List Int) (p : Pl) : Req × Pl :=
  (⟨plV ws p, plV ws (plN ws p), plV ws (plN ws (plN ws (plN ws p))) * 4294967296 + plV ws (plN ws (plN ws p)), (plL ws (rcV ws (plN ws (plN ws (plN ws (plN ws p)))).a (plN ws (plN ws (plN ws (plN ws p)))).e 64).toNat (plC ws (plN ws (plN ws (plN ws (plN ws p)))) 64)).1⟩,
   (plL ws (rcV ws (plN ws (plN ws (plN ws (plN ws p)))).a (plN ws (plN ws (plN ws (plN ws p)))).e 64).toNat (plC ws (plN ws (plN ws (plN ws (plN ws p)))) 64)).2)
/-- So many at most, while there is no error. -/
def rlP {α : Type} (one : Pl → α × Pl) : Nat → Pl → List α × Pl
  | 0, p => ([], p)
  | n + 1, p => if p.e = 0 then ((one p).1 :: (rlP one n (one p).2).1, (rlP one n (one p).2).2) else ([], p)
def rlsP {α : Type} (ws : List Int) (one : Pl → α × Pl) (m : Int) (p : Pl) : List α × Pl := rlP one (rcV ws p.a p.e m).toNat (plC ws p m)
def rqsP (ws : List Int) (p : Pl) : List Req × Pl := rlsP ws (rrP ws) 64 p
def rsP (ws : List Int) (p : Pl) : List (List Req) × Pl := rlsP ws (rqsP ws) 64 p
def raP (ws : List Int) (p : Pl) : List Int × Pl := rlsP ws (fun p => (plV ws p, plN ws p)) 4096 p
def rcfP (ws : List Int) : Cfg × Pl :=
  if (plN ws ⟨0, 0⟩).e = 0 then
    (if (ws.length : Int) - 1 < plV ws ⟨0, 0⟩ then (zcfg, ⟨(plN ws ⟨0, 0⟩).a, 8⟩) else (parseR ((ws.drop 1).take (plV ws ⟨0, 0⟩).toNat), ⟨1 + (plV ws ⟨0, 0⟩).toNat, parseE ((ws.drop 1).take (plV ws ⟨0, 0⟩).toNat)⟩))
  else (zcfg, plN ws ⟨0, 0⟩)
def rjE (ws : List Int) : Int := if (raP ws (rsP ws (rcfP ws).2).2).2.e = 0 ∧ (raP ws (rsP ws (rcfP ws).2).2).2.a < ws.length then 9 else (raP ws (rsP ws (rcfP ws).2).2).2.e
def rjJ (ws : List Int) : Job := if rjE ws = 0 then ⟨(rcfP ws).1, (rsP ws (rcfP ws).2).1, (raP ws (rsP ws (rcfP ws).2).2).1⟩ else zjob
/-! ### the simulation -/
/-- The program's state and the reference's place say the same. -/
def Sim (ws : List Int) (q : St) (p : Pl) : Prop := q.e = p.e ∧ (p.e = 0 → q.ws = ws.drop p.a ∧ q.s = false ∧ p.a ≤ ws.length)
theorem sim_bad {ws : List Int} {q : St} {p : Pl} (h : q.e = p.e) (hn : p.e ≠ 0) : Sim ws q p := ⟨h, fun h0 => absurd h0 hn⟩
theorem stW_bad {q : St} (h : q.e ≠ 0) : (stW q).e = q.e := by
  show (if nextS q.ws q.s = true then (if q.e = 0 then 8 else q.e) else q.e) = q.e
  rw [if_neg h]
  split <;> rfl
theorem stF_bad {q : St} (h : q.e ≠ 0) (c : Int) : (stF q c).e = q.e := by
  show (if q.e = 0 then c else q.e) = q.e
  rw [if_neg h]
theorem plN_bad {ws : List Int} {p : Pl} (h : p.e ≠ 0) : plN ws p = p := by
  show (⟨rnA ws p.a p.e, rnE ws p.a p.e⟩ : Pl) = p
  unfold rnA rnE
  rw [if_neg h, if_neg h]
theorem plN_zero {ws : List Int} {p : Pl} (h : (plN ws p).e = 0) : p.e = 0 := by
  by_cases h0 : p.e = 0
  · exact h0
  · rw [plN_bad h0] at h
    exact h
theorem sim_word {ws : List Int} {q : St} {p : Pl} (h : Sim ws q p) : Sim ws (stW q) (plN ws p) ∧ ((plN ws p).e = 0 → nextV q.ws = plV ws p) := by
  obtain ⟨he, h0⟩ := h
  by_cases hp : p.e = 0
  · obtain ⟨hw, hs, ha⟩ := h0 hp
    rw [hp] at he
    by_cases hlt : p.a < ws.length
    · have hd : q.ws = ws[p.a] :: ws.drop (p.a + 1) := by rw [hw, List.drop_eq_getElem_cons hlt]
      have hN : plN ws p = ⟨p.a + 1, 0⟩ := by
        show (⟨rnA ws p.a p.e, rnE ws p.a p.e⟩ : Pl) = _
        unfold rnA rnE
        rw [hp, if_pos rfl, if_pos rfl, if_pos hlt, if_pos hlt]
      have hS : nextS q.ws q.s = false := by rw [hd, hs]; rfl
      have hW : stW q = ⟨ws.drop (p.a + 1), false, 0⟩ := by
        unfold stW
        rw [hS, if_neg (by decide), he, hd]
        rfl
      rw [hN, hW]
      refine ⟨⟨rfl, fun _ => ⟨rfl, rfl, hlt⟩⟩, fun _ => ?_⟩
      show nextV q.ws = rnV ws p.a p.e
      unfold rnV
      rw [hp, if_pos rfl, if_pos hlt, hd, List.getD_eq_getElem?_getD, List.getElem?_eq_getElem hlt]
      rfl
    · have hd : q.ws = [] := by rw [hw]; exact List.drop_eq_nil_of_le (by omega)
      have hN : plN ws p = ⟨p.a, 8⟩ := by
        show (⟨rnA ws p.a p.e, rnE ws p.a p.e⟩ : Pl) = _
        unfold rnA rnE
        rw [hp, if_pos rfl, if_pos rfl, if_neg hlt, if_neg hlt]
      rw [hN]
      refine ⟨sim_bad ?_ (by show (8 : Int) ≠ 0; decide), fun h => absurd h (by show ¬ (8 : Int) = 0; decide)⟩
      show (if nextS q.ws q.s = true then (if q.e = 0 then 8 else q.e) else q.e) = (8 : Int)
      rw [hd, he, show nextS [] q.s = true from rfl, if_pos rfl, if_pos rfl]
  · have hq : q.e ≠ 0 := by rw [he]; exact hp
    rw [plN_bad hp]
    exact ⟨sim_bad (by rw [stW_bad hq]; exact he) hp, fun h => absurd h hp⟩
theorem plC_zero {ws : List Int} {p : Pl} {m : Int} (h : (plC ws p m).e = 0) : (plN ws p).e = 0 := by
  have h' : rcE ws p.a p.e m = 0 := h
  show rnE ws p.a p.e = 0
  by_cases h0 : rnE ws p.a p.e = 0
  · exact h0
  · unfold rcE at h'
    rw [if_neg h0] at h'
    exact h'
theorem sim_count {ws : List Int} {q : St} {p : Pl} (m : Int) (h : Sim ws q p) : Sim ws (if m < nextV q.ws then stF (stW q) 7 else stW q) (plC ws p m) ∧ ((plC ws p m).e = 0 → nextV q.ws = rcV ws p.a p.e m) := by
  obtain ⟨hs, hv⟩ := sim_word h
  by_cases h0 : (plN ws p).e = 0
  · have hv := hv h0
    obtain ⟨he, hr⟩ := hs
    have hr := hr h0
    rw [h0] at he
    have h0' : rnE ws p.a p.e = 0 := h0
    have hv' : nextV q.ws = rnV ws p.a p.e := hv
    by_cases hm : m < nextV q.ws
    · have hE : (plC ws p m).e = 7 := by
        show rcE ws p.a p.e m = 7
        unfold rcE
        rw [if_pos h0', if_pos (by rw [← hv']; exact hm)]
      rw [if_pos hm]
      refine ⟨sim_bad ?_ (by rw [hE]; decide), fun h => absurd h (by rw [hE]; decide)⟩
      rw [hE]
      show (if (stW q).e = 0 then 7 else (stW q).e) = (7 : Int)
      rw [if_pos he]
    · have hE : rcE ws p.a p.e m = 0 := by
        unfold rcE
        rw [if_pos h0', if_neg (by rw [← hv']; exact hm)]
      rw [if_neg hm]
      refine ⟨⟨?_, fun _ => hr⟩, fun _ => ?_⟩
      · rw [he]; exact hE.symm
      · unfold rcV
        rw [if_pos hE, hv']
  · have hE : (plC ws p m).e = (plN ws p).e := by
      show rcE ws p.a p.e m = rnE ws p.a p.e
      unfold rcE
      exact if_neg h0
    have hq : (stW q).e ≠ 0 := by rw [hs.1]; exact h0
    refine ⟨sim_bad ?_ (by rw [hE]; exact h0), fun h => absurd h (by rw [hE]; exact h0)⟩
    rw [hE, ← hs.1]
    split
    · exact stF_bad hq 7
    · rfl
theorem rlP_bad {α : Type} (one : Pl → α × Pl) (n : Nat) {p : Pl} (h : p.e ≠ 0) : rlP one n p = ([], p) := by
  cases n with
  | zero => rfl
  | succ n => unfold rlP; rw [if_neg h]
theorem rlP_zero {α : Type} {one : Pl → α × Pl} {n : Nat} {p : Pl} (h : (rlP one n p).2.e = 0) : p.e = 0 := by
  by_cases h0 : p.e = 0
  · exact h0
  · rw [rlP_bad one n h0] at h
    exact h
/-- One of the program's readers, and one of the reference's, tell the same. -/
def SimOne {α : Type} (ws : List Int) (one1 : St → α × St) (one2 : Pl → α × Pl) : Prop := ∀ q p, Sim ws q p → Sim ws (one1 q).2 (one2 p).2 ∧ ((one2 p).2.e = 0 → (one1 q).1 = (one2 p).1)
theorem sim_lsP {α : Type} {ws : List Int} {one1 : St → α × St} {one2 : Pl → α × Pl} (ho : SimOne ws one1 one2) : ∀ (n : Nat) (q : St) (p : Pl), Sim ws q p → Sim ws (lsP one1 n q).2 (rlP one2 n p).2 ∧ ((rlP one2 n p).2.e = 0 → (lsP one1 n q).1 = (rlP one2 n p).1)
  | 0, q, p, h => ⟨h, fun _ => rfl⟩
  | n + 1, q, p, h => by
    by_cases h0 : p.e = 0
    · have hq : q.e = 0 := by rw [h.1]; exact h0
      obtain ⟨h1, h2⟩ := ho q p h
      obtain ⟨h3, h4⟩ := sim_lsP ho n _ _ h1
      rw [lsP_step one1 n hq]
      unfold rlP
      rw [if_pos h0]
      refine ⟨h3, fun hz => ?_⟩
      have hz' : (rlP one2 n (one2 p).2).2.e = 0 := hz
      show (one1 q).1 :: (lsP one1 n (one1 q).2).1 = (one2 p).1 :: (rlP one2 n (one2 p).2).1
      rw [h2 (rlP_zero hz'), h4 hz']
    · have hq : q.e ≠ 0 := by rw [h.1]; exact h0
      rw [lsP_stop one1 _ hq, rlP_bad one2 _ h0]
      exact ⟨h, fun _ => rfl⟩
theorem sim_lsR {α : Type} {ws : List Int} {one1 : St → α × St} {one2 : Pl → α × Pl} (ho : SimOne ws one1 one2) (m : Int) : SimOne ws (lsR one1 m) (rlsP ws one2 m) := by
  intro q p h
  obtain ⟨h1, h2⟩ := sim_count m h
  unfold lsR rlsP
  by_cases h0 : (plC ws p m).e = 0
  · rw [h2 h0] at h1 ⊢
    exact sim_lsP ho _ _ _ h1
  · have hq : (if m < nextV q.ws then stF (stW q) 7 else stW q).e ≠ 0 := by rw [h1.1]; exact h0
    rw [lsP_stop one1 _ hq, rlP_bad one2 _ h0]
    exact ⟨h1, fun _ => rfl⟩
theorem sim_oneW (ws : List Int) : SimOne ws oneW (fun p => (plV ws p, plN ws p)) := fun q p h => sim_word h
theorem plL_bad {ws : List Int} : ∀ (n : Nat) {p : Pl}, p.e ≠ 0 → (plL ws n p).2 = p
  | 0, p, _ => rfl
  | n + 1, p, h => by
    show (plL ws n (plN ws p)).2 = p
    rw [plN_bad h]
    exact plL_bad n h
theorem plL_zero {ws : List Int} {n : Nat} {p : Pl} (h : (plL ws n p).2.e = 0) : p.e = 0 := by
  by_cases h0 : p.e = 0
  · exact h0
  · rw [plL_bad n h0] at h
    exact h
theorem sim_plL {ws : List Int} : ∀ (n : Nat) (q : St) (p : Pl), Sim ws q p → Sim ws (lsP oneW n q).2 (plL ws n p).2 ∧ ((plL ws n p).2.e = 0 → (lsP oneW n q).1 = (plL ws n p).1)
  | 0, q, p, h => ⟨h, fun _ => rfl⟩
  | n + 1, q, p, h => by
    by_cases h0 : p.e = 0
    · have hq : q.e = 0 := by rw [h.1]; exact h0
      obtain ⟨h1, h2⟩ := sim_word h
      obtain ⟨h3, h4⟩ := sim_plL n _ _ h1
      rw [lsP_step oneW n hq]
      refine ⟨h3, fun hz => ?_⟩
      have hz' : (plL ws n (plN ws p)).2.e = 0 := hz
      show nextV q.ws :: (lsP oneW n (stW q)).1 = plV ws p :: (plL ws n (plN ws p)).1
      rw [h2 (plL_zero hz'), h4 hz']
    · have hq : q.e ≠ 0 := by rw [h.1]; exact h0
      rw [lsP_stop oneW _ hq]
      have hb : (plL ws (n + 1) p).2 = p := plL_bad (n + 1) h0
      refine ⟨by rw [hb]; exact h, fun hz => ?_⟩
      rw [hb] at hz
      exact absurd hz h0
theorem sim_data (ws : List Int) (m : Int) {q : St} {p : Pl} (h : Sim ws q p) : Sim ws (lsR oneW m q).2 (plL ws (rcV ws p.a p.e m).toNat (plC ws p m)).2 ∧ ((plL ws (rcV ws p.a p.e m).toNat (plC ws p m)).2.e = 0 → (lsR oneW m q).1 = (plL ws (rcV ws p.a p.e m).toNat (plC ws p m)).1) := by
  obtain ⟨h1, h2⟩ := sim_count m h
  unfold lsR
  by_cases h0 : (plC ws p m).e = 0
  · rw [h2 h0] at h1 ⊢
    exact sim_plL _ _ _ h1
  · have hq : (if m < nextV q.ws then stF (stW q) 7 else stW q).e ≠ 0 := by rw [h1.1]; exact h0
    rw [lsP_stop oneW _ hq]
    have hb : (plL ws (rcV ws p.a p.e m).toNat (plC ws p m)).2 = plC ws p m := plL_bad _ h0
    refine ⟨by rw [hb]; exact h1, fun hz => ?_⟩
    rw [hb] at hz
    exact absurd hz h0
theorem sim_req (ws : List Int) : SimOne ws reqP (rrP ws) := by
  intro q p h
  obtain ⟨a1, b1⟩ := sim_word h
  obtain ⟨a2, b2⟩ := sim_word a1
  obtain ⟨a3, b3⟩ := sim_word a2
  obtain ⟨a4, b4⟩ := sim_word a3
  obtain ⟨a5, b5⟩ := sim_data ws 64 a4
  refine ⟨a5, fun hz => ?_⟩
  have hz5 : (plL ws (rcV ws (plN ws (plN ws (plN ws (plN ws p)))).a (plN ws (plN ws (plN ws (plN ws p)))).e 64).toNat (plC ws (plN ws (plN ws (plN ws (plN ws p)))) 64)).2.e = 0 := hz
  have z4 := plN_zero (plC_zero (plL_zero hz5))
  have z3 := plN_zero z4
  have z2 := plN_zero z3
  have z1 := plN_zero z2
  show (⟨nextV q.ws, nextV (stW q).ws, nextV (stW (stW (stW q))).ws * 4294967296 + nextV (stW (stW q)).ws, (lsR oneW 64 (stW (stW (stW (stW q))))).1⟩ : Req) = ⟨plV ws p, plV ws (plN ws p), plV ws (plN ws (plN ws (plN ws p))) * 4294967296 + plV ws (plN ws (plN ws p)), (plL ws (rcV ws (plN ws (plN ws (plN ws (plN ws p)))).a (plN ws (plN ws (plN ws (plN ws p)))).e 64).toNat (plC ws (plN ws (plN ws (plN ws (plN ws p)))) 64)).1⟩
  rw [b1 z1, b2 z2, b3 z3, b4 z4, b5 hz5]
theorem sim_cfg (ws : List Int) (hw : Words ws) : Sim ws (cfP ⟨ws, false, 0⟩).2 (rcfP ws).2 ∧ ((rcfP ws).2.e = 0 → (cfP ⟨ws, false, 0⟩).1 = (rcfP ws).1) := by
  have h : Sim ws ⟨ws, false, 0⟩ ⟨0, 0⟩ := ⟨rfl, fun _ => ⟨rfl, rfl, Nat.zero_le _⟩⟩
  obtain ⟨h1, h2⟩ := sim_word h
  unfold cfP rcfP
  by_cases h0 : (plN ws ⟨0, 0⟩).e = 0
  · have hq : (stW ⟨ws, false, 0⟩).e = 0 := by rw [h1.1]; exact h0
    obtain ⟨hws, hs, ha⟩ := h1.2 h0
    have hne : 0 < ws.length := by
      cases ws with
      | nil => exact absurd h0 (by decide)
      | cons x r => exact Nat.succ_pos _
    have hA : (plN ws ⟨0, 0⟩).a = 1 := by
      show rnA ws 0 0 = 1
      unfold rnA
      rw [if_pos rfl, if_pos hne]
    rw [hA] at hws
    have hn := h2 h0
    have hn' : nextV ws = plV ws ⟨0, 0⟩ := hn
    have hw0 := hw.head
    rw [if_pos hq, if_pos h0, hn']
    rw [hn'] at hw0
    generalize plV ws ⟨0, 0⟩ = n at *
    unfold stT
    rw [hws, hs, hq]
    by_cases hgt : ((ws.length : Int) - 1) < n
    · have e1 : takeS (ws.drop 1) n false = true := by
        unfold takeS
        rw [if_neg (by omega), if_pos (by rw [List.length_drop]; omega)]
      rw [if_pos e1, if_pos hgt]
      exact ⟨sim_bad rfl (by show (8 : Int) ≠ 0; decide), fun _ => rfl⟩
    · rw [if_neg hgt]
      by_cases hz : n ≤ 0
      · have hn0 : n = 0 := by omega
        subst hn0
        have e1 : takeS (ws.drop 1) 0 false = false := by unfold takeS; rw [if_pos (by decide)]
        have e2 : takeV (ws.drop 1) 0 = [] := by unfold takeV; rw [if_pos (by decide)]
        rw [e1, if_neg (show ¬ (false : Bool) = true by decide), e2]
        exact ⟨sim_bad rfl (by show (8 : Int) ≠ 0; decide), fun _ => rfl⟩
      · have e1 : takeS (ws.drop 1) n false = false := by
          unfold takeS
          rw [if_neg hz, if_neg (by rw [List.length_drop]; omega)]
        have e2 : takeV (ws.drop 1) n = (ws.drop 1).take n.toNat := by
          unfold takeV
          rw [if_neg hz, if_neg (by rw [List.length_drop]; omega)]
        have e3 : takeR (ws.drop 1) n = ws.drop (1 + n.toNat) := by
          unfold takeR
          rw [if_neg hz, if_neg (by rw [List.length_drop]; omega), List.drop_drop]
        rw [e1, if_neg (show ¬ (false : Bool) = true by decide), e2, e3]
        refine ⟨⟨?_, fun _ => ⟨rfl, rfl, ?_⟩⟩, fun _ => rfl⟩
        · show (if (0 : Int) = 0 then parseE ((ws.drop 1).take n.toNat) else 0) = parseE ((ws.drop 1).take n.toNat)
          rw [if_pos rfl]
        · show 1 + n.toNat ≤ ws.length
          omega
  · have hq : (stW ⟨ws, false, 0⟩).e ≠ 0 := by rw [h1.1]; exact h0
    rw [if_neg hq, if_neg h0]
    exact ⟨h1, fun _ => rfl⟩
theorem rj_job (ws : List Int) (hw : Words ws) : rjE ws = jobE ws ∧ rjJ ws = jobJ ws := by
  obtain ⟨a1, b1⟩ := sim_cfg ws hw
  obtain ⟨a2, b2⟩ := sim_lsR (sim_lsR (sim_req ws) 64) 64 _ _ a1
  obtain ⟨a3, b3⟩ := sim_lsR (sim_oneW ws) 4096 _ _ a2
  have hE : rjE ws = jobE ws := by
    show (if (raP ws (rsP ws (rcfP ws).2).2).2.e = 0 ∧ (raP ws (rsP ws (rcfP ws).2).2).2.a < ws.length then 9 else (raP ws (rsP ws (rcfP ws).2).2).2.e) = (q4P ws).e
    have e3 : (q3P ws).e = (raP ws (rsP ws (rcfP ws).2).2).2.e := a3.1
    unfold q4P
    by_cases h0 : (raP ws (rsP ws (rcfP ws).2).2).2.e = 0
    · obtain ⟨hws, hs, ha⟩ : (q3P ws).ws = ws.drop (raP ws (rsP ws (rcfP ws).2).2).2.a ∧ (q3P ws).s = false ∧ (raP ws (rsP ws (rcfP ws).2).2).2.a ≤ ws.length := a3.2 h0
      rw [h0] at e3
      have hd : doneS (q3P ws) = decide (ws.length ≤ (raP ws (rsP ws (rcfP ws).2).2).2.a) := by
        unfold doneS
        rw [hws, hs, List.length_drop]
        simp
        omega
      rw [e3, hd]
      by_cases hlt : (raP ws (rsP ws (rcfP ws).2).2).2.a < ws.length
      · rw [if_pos ⟨h0, hlt⟩, if_pos ⟨rfl, decide_eq_false (by omega)⟩]
        show (9 : Int) = if (q3P ws).e = 0 then 9 else (q3P ws).e
        rw [if_pos e3]
      · rw [if_neg (fun h => hlt h.2), if_neg (fun h => by have := of_decide_eq_false h.2; omega), h0]
        exact e3.symm
    · rw [if_neg (fun h => h0 h.1), if_neg (fun h => h0 (by rw [← e3]; exact h.1))]
      exact e3.symm
  refine ⟨hE, ?_⟩
  unfold rjJ jobJ
  rw [hE]
  by_cases hz : jobE ws = 0
  · rw [if_pos hz, if_pos hz]
    have h3 : (raP ws (rsP ws (rcfP ws).2).2).2.e = 0 := by
      have h : (if (raP ws (rsP ws (rcfP ws).2).2).2.e = 0 ∧ (raP ws (rsP ws (rcfP ws).2).2).2.a < ws.length then 9 else (raP ws (rsP ws (rcfP ws).2).2).2.e) = (0 : Int) := hE.trans hz
      split at h
      · exact absurd h (by decide)
      · exact h
    have h2 : (rsP ws (rcfP ws).2).2.e = 0 := plN_zero (plC_zero (rlP_zero h3))
    have h1 : (rcfP ws).2.e = 0 := plN_zero (plC_zero (rlP_zero h2))
    show (⟨(rcfP ws).1, (rsP ws (rcfP ws).2).1, (raP ws (rsP ws (rcfP ws).2).2).1⟩ : Job) = ⟨(cfP ⟨ws, false, 0⟩).1, (lsR lqP 64 (q1P ws)).1, (lsR oneW 4096 (q2P ws)).1⟩
    rw [b1 h1]
    congr 1
    · exact (b2 h2).symm
    · exact (b3 h3).symm
  · rw [if_neg hz, if_neg hz]
end Go.Proofs.Ytbpmmabdjabfcaa.Script
