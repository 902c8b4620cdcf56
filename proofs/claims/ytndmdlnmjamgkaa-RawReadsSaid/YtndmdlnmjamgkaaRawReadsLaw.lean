import Derived.Test.YtndmdlnmjamgkaaRawJoinsLaw
import Derived.Deep.DeepCutAuto
import Derived.Deep.CutBlock
import Derived.Deep.LoopGhost
/- RawReads: what is read of a box, the program's and the reference's. -/
namespace Go.Proofs.Ytndmdlnmjamgkaa.Box
open Go.RowKit Go.Proofs.YtndmdlnmjamgkaaW.PrintWords Go.Proofs.YtndmdlnmjamgkaaW.PrintMore Go.Proofs.Ytndmdlnmjamgkaa.PR

theorem drop_tail (ws : List Int) (a : Nat) : (ws.drop a).tail = ws.drop (a + 1) := by rw [List.tail_drop]
theorem nextV_rd (ws : List Int) (a : Nat) (h : a < ws.length) : nextV (ws.drop a) = rd ws (a : Int) := by
  unfold nextV rd
  rw [List.drop_eq_getElem_cons h, Int.toNat_natCast, List.getD_eq_getElem?_getD, List.getElem?_eq_getElem h]
  rfl
/-- The reference's place behind a Next, a Take. -/
def atN (len a : Nat) : Nat := if a < len then a + 1 else a
theorem refNext_eq (ws : List Int) (a : Nat) (s : Bool) (ha : a ≤ ws.length) (hl : ws.length ≤ 1000000) :
    portholeref05_Box_Next.f ws (a : Int) s = some (nextV (ws.drop a), (atN ws.length a : Int), nextS (ws.drop a) s) := by
  unfold portholeref05_Box_Next.f atN
  by_cases h : a < ws.length
  · have h1 : wrap64 ((a : Int) + 1) = (a : Int) + 1 := by unfold wrap64; omega
    have h2 : wrap64 ((a : Int) + 1 - 1) = (a : Int) := by unfold wrap64; omega
    rw [if_neg (by omega), h1, h2, if_pos (by omega), if_pos (by omega), if_pos h, nextV_rd ws a h]
    have h3 : nextS (ws.drop a) s = s := by unfold nextS; rw [List.drop_eq_getElem_cons h]; rfl
    rw [h3]; rfl
  · rw [if_pos (by omega), if_neg h, List.drop_of_length_le (by omega)]; rfl
theorem next_drop (ws : List Int) (a : Nat) (ha : a ≤ ws.length) : (ws.drop a).tail = ws.drop (atN ws.length a) := by
  unfold atN
  by_cases h : a < ws.length
  · rw [if_pos h, drop_tail]
  · rw [if_neg h, drop_tail, List.drop_of_length_le (by omega), List.drop_of_length_le (by omega)]
theorem refTake_l0 (ws : List Int) (n : Nat) (hn : n ≤ 1000000) (hl : ws.length ≤ 1000000) (m : Nat) : ∀ (k i a : Nat) (out : List Int) (s : Bool), n - i = m → i ≤ n → a + (n - i) ≤ ws.length → m < k → out.length ≤ a → portholeref05_Box_Take.l0 k (n : Int) out (i : Int) ws (a : Int) s =
    some (out ++ (ws.drop a).take (n - i), ((a + (n - i) : Nat) : Int), s) := by
  induction m with
  | zero =>
    intro k i a out s hm hi ha hk _
    obtain ⟨k, rfl⟩ : ∃ q, k = q + 1 := ⟨k - 1, by omega⟩
    simp only [portholeref05_Box_Take.l0]
    rw [if_neg (by omega), hm]
    simp
  | succ m ih =>
    intro k i a out s hm hi ha hk ho
    obtain ⟨k, rfl⟩ : ∃ q, k = q + 1 := ⟨k - 1, by omega⟩
    have h1 : a < ws.length := by omega
    simp only [portholeref05_Box_Take.l0]
    rw [if_pos (by omega), refNext_eq ws a s (by omega) hl]
    simp only [Option.bind_some]
    rw [if_pos (by omega), show wrap64 ((i : Int) + 1) = ((i + 1 : Nat) : Int) from by unfold wrap64; omega]
    have h3 : nextS (ws.drop a) s = s := by unfold nextS; rw [List.drop_eq_getElem_cons h1]; rfl
    have h4 : atN ws.length a = a + 1 := by unfold atN; rw [if_pos h1]
    rw [h3, h4, ih k (i + 1) (a + 1) _ s (by omega) (by omega) (by omega) (by omega) (by rw [List.length_append]; simp; omega)]
    have h5 : (ws.drop a).take (n - i) = nextV (ws.drop a) :: (ws.drop (a + 1)).take (n - (i + 1)) := by
      rw [show n - i = (n - (i + 1)) + 1 from by omega, List.drop_eq_getElem_cons h1]
      rfl
    rw [h5, List.append_assoc, show a + 1 + (n - (i + 1)) = a + (n - i) from by omega]
    rfl
def atT (len a : Nat) (n : Int) : Nat := if n ≤ 0 then a else if n > ((len - a : Nat) : Int) then a else a + n.toNat
theorem refTake_eq (ws : List Int) (a : Nat) (s : Bool) (n : Int) (hn : 0 ≤ n) (ha : a ≤ ws.length) (hl : ws.length ≤ 1000) :
    portholeref05_Box_Take.f 2000 ws (a : Int) s n = some (takeV (ws.drop a) n, (atT ws.length a n : Int), takeS (ws.drop a) n s) := by
  have hld : (ws.drop a).length = ws.length - a := List.length_drop
  unfold portholeref05_Box_Take.f takeV takeS atT
  rw [hld, show wrap64 ((ws.length : Int) - (a : Int)) = ((ws.length - a : Nat) : Int) from by unfold wrap64; omega]
  by_cases h1 : n > ((ws.length - a : Nat) : Int)
  · rw [if_pos h1, if_neg (by omega), if_pos h1, if_neg (by omega), if_pos h1, if_neg (by omega), if_pos h1]
  · rw [if_neg h1]
    obtain ⟨m, rfl⟩ := Int.eq_ofNat_of_zero_le hn
    have h2 := refTake_l0 ws m (by omega) (by omega) m 2000 0 a [] s (by omega) (by omega) (by omega) (by omega) (by simp)
    rw [show ((0 : Nat) : Int) = 0 from rfl] at h2
    rw [h2]
    by_cases h0 : (m : Int) ≤ 0
    · obtain rfl : m = 0 := by omega
      simp
    · simp only [if_neg h0, if_neg h1, Int.toNat_natCast]
      simp
theorem take_drop (ws : List Int) (a : Nat) (n : Int) : takeR (ws.drop a) n = ws.drop (atT ws.length a n) := by
  have hld : (ws.drop a).length = ws.length - a := List.length_drop
  unfold takeR atT
  rw [hld]
  by_cases h0 : n ≤ 0
  · rw [if_pos h0, if_pos h0]
  rw [if_neg h0, if_neg h0]
  by_cases h1 : n > ((ws.length - a : Nat) : Int)
  · rw [if_pos h1, if_pos h1]
  · rw [if_neg h1, if_neg h1, List.drop_drop]
theorem atN_le {len a : Nat} (h : a ≤ len) : atN len a ≤ len := by unfold atN; split <;> omega
theorem atT_le {len a : Nat} {n : Int} (h : a ≤ len) : atT len a n ≤ len := by unfold atT; split <;> (try split) <;> omega

/-- Done, of both: they read alone. -/
theorem done_reads (g : Nat) (A : Option Addr) (n c : Nat) (s : Bool) (w : World) (hc0 : w.cell? ⟨g, 0, none⟩ = some (.slice A n c)) (hc1 : w.cell? ⟨g, 1, none⟩ = some (.bool s)) :
    Calls Try.prog 21 #[.pointer (some ⟨g, 0, none⟩)] w fun e w' => e = .returned (.bool (decide (n = 0) && !s)) ∧ w = w' := by
  by_cases hn : n = 0
  · subst hn
    go_enter Try.func21, Try.ntmps21
    go_wp2
    go_ret
    exact ⟨by simp, rfl⟩
  · have hb : ((n : Int) == 0) = false := by simp; omega
    have HN := Aside0.mk hn
    clear hn
    go_enter Try.func21, Try.ntmps21
    go_wp2
    go_ret
    exact ⟨by have := HN.out; simp [this], rfl⟩
theorem refdone_reads (g : Nat) (A : Option Addr) (n c a : Nat) (s : Bool) (w : World) (hc0 : w.cell? ⟨g, 0, none⟩ = some (.slice A n c)) (hc1 : w.cell? ⟨g, 1, none⟩ = some (.int .i64 a)) (hc2 : w.cell? ⟨g, 2, none⟩ = some (.bool s)) :
    Calls Try.prog 22 #[.pointer (some ⟨g, 0, none⟩)] w fun e w' => e = .returned (.bool (decide (a = n) && !s)) ∧ ∃ m, w' = w.drewN m := by
  by_cases hn : a = n
  · subst hn
    have hb : ((a : Int) == (a : Int)) = true := by simp
    go_enter Try.func22, Try.ntmps22
    go_wp2
    go_quiet (fail)
    go_wp2
    go_ret
    exact ⟨by simp, _, rfl⟩
  · have hb : ((a : Int) == (n : Int)) = false := by simp; omega
    have HN := Aside0.mk hn
    clear hn
    go_enter Try.func22, Try.ntmps22
    go_wp2
    go_quiet (fail)
    go_wp2
    go_ret
    exact ⟨by have := HN.out; simp [this], _, rfl⟩
/-- A cut of a slice's front, at an int. -/
theorem slice_from {P : Program} (t e : TypeId) (i0 : TypeInfo) (ht : P.underlying t = some (.slice e)) (hi : P.info? e = some i0) (hs : i0.size = 1) (A : Option Addr) (n c m : Nat) (hm : m ≤ n) (hm2 : m ≤ 9223372036854775807) (w : World) :
    (Instr.slice t (.slice A n c) (some (.int .i64 m)) none none).run P w = .ok (.slice (if c = m then A else A.map (·.add m)) (n - m) (c - m)) w := by
  have he : P.elem t = e := by simp [Program.elem, ht]
  rw [run_slice_l w t A n c (by rw [he]; exact ht) .i64 (m : Int) (by omega) (by omega), he]
  simp [sizeOf, typeInfo, hi, hs, Result.andThen, sliced]
theorem isRef_cells {w0 w : World} {g : Nat} {ws : List Int} {a : Int} {s : Bool} (h : IsS35 w0 w g ws a s) :
    ∃ A c, w.cell? ⟨g, 0, none⟩ = some (.slice A ws.length c) ∧ w.cell? ⟨g, 1, none⟩ = some (.int .i64 a) ∧ w.cell? ⟨g, 2, none⟩ = some (.bool s) := by
  obtain ⟨A, c, hg, _⟩ := h
  exact ⟨A, c, (blk_cell hg 0).trans rfl, (blk_cell hg 1).trans rfl, (blk_cell hg 2).trans rfl⟩
theorem isRef_keep {w0 w w1 : World} {g g' : Nat} {ws : List Int} {a : Int} {s : Bool} (h : IsS35 w0 w g ws a s) (hk : KeepBut w w1 g' none) (hne : g ≠ g') : IsS35 w0 w1 g ws a s := by
  obtain ⟨A, c, hg, h⟩ := h
  exact ⟨A, c, hk.blk hg hne (by simp), h⟩
theorem IsBox.far {w0 w : World} {g T : Nat} {rest : List Value} {ws : List Int} {s : Bool} (hI : IsBox w0 w g T rest ws s) {p : Addr} (hp : g ≠ p.block) (u : Value) : IsBox w0 (w.setCell p u) g T rest ws s := by
  obtain ⟨A, c, hg, h⟩ := hI
  exact ⟨A, c, blk_far hg hp u, h⟩
theorem isRef_far {w0 w : World} {g : Nat} {ws : List Int} {a : Int} {s : Bool} (h : IsS35 w0 w g ws a s) {p : Addr} (hp : g ≠ p.block) (u : Value) : IsS35 w0 (w.setCell p u) g ws a s := by
  obtain ⟨A, c, hg, h⟩ := h
  exact ⟨A, c, blk_far hg hp u, h⟩
theorem isRef_lt {w0 w : World} {g : Nat} {ws : List Int} {a : Int} {s : Bool} (h : IsS35 w0 w g ws a s) : g < w.heap.size := by
  obtain ⟨A, c, hg, _⟩ := h
  exact blk_lt hg
theorem isRef_below {w0 w w1 : World} {g : Nat} {ws : List Int} {a : Int} {s : Bool} (h : IsS35 w0 w g ws a s) (hb : Below w.heap.size w w1) : IsS35 w0 w1 g ws a s := by
  obtain ⟨A, c, hg, h⟩ := h
  exact ⟨A, c, blk_below hg hb, h⟩
theorem opn_ints : Opn.Opn Try.prog 32 (Kd.slice 3 (Kd.int .i64)) (fun xs => xs.length ≤ maxLen ∧ ∀ x ∈ xs, (Lit.int .i64 x).wf = true) := Opn.opn_slice Try.underlying32 (by kernel_rfl) (Opn.opn_int Try.underlying3)
set_option maxRecDepth 100000 in
set_option maxHeartbeats 4000000 in
theorem RawReads_walk (W : World) (A : Option Addr) (n c : Nat) (ws : List Int) (hK : (Kd.slice 29 (Kd.int .u32)).K W ws (Value.slice A n c).cells.toList) (_hV : ws.length ≤ maxLen ∧ ∀ x ∈ ws, (Lit.int .u32 x).wf = true)
    (A2 : Option Addr) (n2 c2 : Nat) (l : List Int) (hK2 : (Kd.slice 3 (Kd.int .i64)).K W l (Value.slice A2 n2 c2).cells.toList) (_hV2 : l.length ≤ maxLen ∧ ∀ x ∈ l, (Lit.int .i64 x).wf = true) :
    Calls Try.prog 4 #[.slice A n c, .slice A2 n2 c2] W fun e w' => e = .returned (.bool true) ∧ Below W.heap.size W w' := by
  obtain ⟨A', c', he, hc, hr⟩ := hK
  simp only [Value.cells, List.cons.injEq, Value.slice.injEq, and_true] at he
  obtain ⟨rfl, rfl, rfl⟩ := he
  obtain ⟨A', c', he, hc2, hr2⟩ := hK2
  simp only [Value.cells, List.cons.injEq, Value.slice.injEq, and_true] at he
  obtain ⟨rfl, rfl, rfl⟩ := he
  clear _hV _hV2
  have HR := Aside0.mk hr
  have HC := Aside0.mk hc
  have HR2 := Aside0.mk hr2
  have HC2 := Aside0.mk hc2
  have hmx := Kd.C_max hr
  have hmx2 := Kd.C_max hr2
  clear hr hc hr2 hc2
  by_cases hbig : 200 < ws.length
  · have hdb : decide ((200 : Int) < (ws.length : Int)) = true := decide_eq_true (by omega)
    go_enter Try.func4, Try.ntmps4
    go_wp2_with (go_at_call 15; refine (wakes_calls _).mono ?_; rintro e w1 ⟨rfl, hb⟩; have HB := Aside0.mk hb; clear hb)
    go_ret
    exact ⟨rfl, HB.out⟩
  have hdb : decide ((200 : Int) < (ws.length : Int)) = false := decide_eq_false (by omega)
  by_cases hbig2 : 100 < l.length
  · have hdb2 : decide ((100 : Int) < (l.length : Int)) = true := decide_eq_true (by omega)
    go_enter Try.func4, Try.ntmps4
    go_wp2_with (go_at_call 15; refine (wakes_calls _).mono ?_; rintro e w1 ⟨rfl, hb⟩; have HB := Aside0.mk hb; clear hb)
    go_ret
    exact ⟨rfl, HB.out⟩
  have hdb2 : decide ((100 : Int) < (l.length : Int)) = false := decide_eq_false (by omega)
  go_enter Try.func4, Try.ntmps4
  go_wp2_with fail
  refine (wakes_calls _).mono ?_
  rintro e w1 ⟨rfl, hb⟩
  have HB := Aside0.mk hb
  clear hb
  go_wp2_with (at_builtin; refine Kd.R_append_rows (Kd.int .u32) (w0 := w1) w1.heap.size rfl (.tmp 22) (.tmp 23) 22 29 (.int .u32 0) 4 rfl Try.underlying22 info_u32 rfl (by decide) (by omega) (.slice (some ⟨w1.heap.size, 0, none⟩) 0 0) ([] : List Int) ws _ _ _ (fun _ => True) (fun _ => False) rfl rfl (R_void _ _ _) (Kd.C_alloc (Kd.C_below HR.out HB.out) _) (fun _ _ h => h) (fun _ h => h.elim) (fun _ _ => trivial) (below_alloc (Below.refl _ _) _) (by simp) (by simp; omega) ?_; intro v w2 hv hb2 _ _; rw [List.nil_append] at hv; obtain ⟨Ai, ci, rfl⟩ := Kd.R_slice hv; have HV := Aside0.mk hv; have HB2 := Aside0.mk (HB.out.trans (hb2.mono HB.out.size)); clear hv hb2)
  -- the two boxes lie behind the words
  obtain ⟨_, hci, hri⟩ := Kd.R_reads' HV.out
  have hI := (isbox_new (T := 26) (w0 := w2) rfl hci hri rfl).below (below_alloc (Below.refl _ _) (.cells #[.slice A ws.length c, .int .i64 0, .bool false] 35))
  have hX : IsS35 w2 ((w2.alloc (.cells #[.slice Ai ws.length ci, .bool false] 26)).alloc (.cells #[.slice A ws.length c, .int .i64 0, .bool false] 35)) (w2.heap.size + 1) ws 0 false := by
    refine ⟨A, c, ?_, by omega, Kd.C_below HR.out HB2.out⟩
    have := blk_new (w2.alloc (.cells #[.slice Ai ws.length ci, .bool false] 26)) (.cells #[.slice A ws.length c, .int .i64 0, .bool false] 35)
    rwa [World.size_alloc] at this
  have hBw := below_alloc (below_alloc (Below.refl w2.heap.size w2) (.cells #[.slice Ai ws.length ci, .bool false] 26)) (.cells #[.slice A ws.length c, .int .i64 0, .bool false] 35)
  have HI := Aside0.mk hI
  have HX := Aside0.mk hX
  have HBw := Aside0.mk hBw
  have HCI := Aside0.mk hci
  have HRI := Aside0.mk hri
  clear hci hri hI hX hBw HV
  go_loopw [33] (fun i wr => ∃ (k a : Nat) (s : Bool), k ≤ l.length ∧ a ≤ ws.length ∧ i = .int .i64 k ∧ Aside0 (IsBox w2 wr w2.heap.size 26 [] (ws.drop a) s) ∧ Aside0 (IsS35 w2 wr (w2.heap.size + 1) ws a s) ∧ Aside0 (Below w2.heap.size w2 wr)) (fun i _ => l.length - (intOf i).toNat)
  case atStart => exact ⟨0, 0, false, Nat.zero_le _, Nat.zero_le _, rfl, HI, HX, HBw⟩
  case round =>
    clear HI HX HBw
    obtain ⟨k, a, s, hk, ha, rfl, HI, HX, HZ⟩ := hrel
    have HBW := Aside0.mk (HB2.out.trans (HZ.out.mono HB2.out.size))
    by_cases hlt : k < l.length
    · obtain ⟨ad, rfl, hcell⟩ := Kd.at_int (Kd.C_below HR2.out HBW.out) (k : Int) (by omega) (by omega)
      rw [Int.toNat_natCast] at hcell
      obtain ⟨x, hx⟩ : ∃ x, rd l (k : Int) = x := ⟨_, rfl⟩
      rw [hx] at hcell
      clear hx
      have hdx : decide (x < 0) = decide (x < 0) := rfl
      clear hdx
      go_upto_if 38 with (fail)
      go_cut [] (fun wc => ∃ (a' : Nat) (s' : Bool), a' ≤ ws.length ∧ Aside0 (IsBox w2 wc w2.heap.size 26 [] (ws.drop a') s') ∧ Aside0 (IsS35 w2 wc (w2.heap.size + 1) ws a' s') ∧ Aside0 (Below w2.heap.size w2 wc))
      case first =>
        by_cases hneg : x < 0
        · go_wp2_with fail
          refine (next_any _ [] _ _ _ w2 wr HI.out HZ.out).mono ?_
          rintro e w4 ⟨rfl, hI4, hB4, hk4⟩
          rw [next_drop ws a ha] at hI4
          have HI4 := Aside0.mk hI4
          have HX4 := Aside0.mk (isRef_keep HX.out hk4 (by omega))
          have HZ4 := Aside0.mk hB4
          clear hI4 hB4 hk4
          go_wp2_with fail
          refine (portholeref05_Box_Next.calls _ ws (a : Int) s _ _ _ w2 w4 HX4.out HZ4.out (refNext_eq ws a s ha (by omega))).mono ?_
          rintro e w5 ⟨rfl, hX5, hB5, hk5⟩
          have HI5 := Aside0.mk (HI4.out.keep hk5 (by omega))
          have HX5 := Aside0.mk hX5
          have HZ5 := Aside0.mk hB5
          clear hX5 hB5 hk5
          go_wp2
          go_meet
          case rel => exact ⟨atN ws.length a, nextS (ws.drop a) s, atN_le ha, HI5, HX5, HZ5⟩
        · have hlw : (ws.drop a).length ≤ 200 := by rw [List.length_drop]; omega
          go_wp2_with fail
          refine (take_any _ [] _ _ _ x w2 wr HI.out HZ.out (by omega)).mono ?_
          rintro e w4 ⟨v, rfl, hv, hI4, hB4, hk4⟩
          rw [take_drop ws a x] at hI4
          have hlt1 : (takeV (ws.drop a) x).length ≤ 200 := by
            unfold takeV; split <;> (try split) <;> simp <;> omega
          obtain ⟨tv, htv⟩ : ∃ tv, takeV (ws.drop a) x = tv := ⟨_, rfl⟩
          rw [htv] at hv hlt1
          have href := refTake_eq ws a s x (by omega) ha (by omega)
          rw [htv] at href
          obtain ⟨A4, c4, rfl⟩ := Kd.R_slice hv
          have HV4 := Aside0.mk hv
          have HI4 := Aside0.mk hI4
          have HX4 := Aside0.mk (isRef_keep HX.out hk4 (by omega))
          have HZ4 := Aside0.mk hB4
          have HREF := Aside0.mk href
          have hgw := isRef_lt HX.out
          have HK4 := Aside0.mk hk4
          clear hv hI4 hB4 hk4 htv href hlw
          go_wp2_with fail
          refine (portholeref05_Box_Take.calls 2000 _ ws (a : Int) s x _ _ _ w2 w4 HX4.out HZ4.out HREF.out).mono ?_
          rintro e w5 ⟨v5, rfl, hv5, hX5, hB5, hk5⟩
          obtain ⟨A5, c5, rfl⟩ := Kd.R_slice hv5
          obtain ⟨_, hc5, hr5⟩ := Kd.R_reads' hv5
          have hv45 := R_keep_elder HV4.out hk5 hgw
          obtain ⟨_, hc4, hr4⟩ := Kd.R_reads' hv45
          have HV5 := Aside0.mk hv45
          have HI5 := Aside0.mk (HI4.out.keep hk5 (by omega))
          have HX5 := Aside0.mk hX5
          have HZ5 := Aside0.mk hB5
          have HC4 := Aside0.mk hc4
          have HR4 := Aside0.mk hr4
          have HC5 := Aside0.mk hc5
          have HR5 := Aside0.mk hr5
          clear hv5 hX5 hB5 hk5 hv45 hc4 hc5 hr4 hr5
          go_wp2_with fail
          refine (portholeref02_Same.calls 1000 A4 c4 tv A5 c5 tv true w5 HR4.out HC4.out HR5.out HC5.out (same_refl 1000 _ (by omega) (by omega))).mono ?_
          rintro e w6 ⟨rfl, hd⟩
          obtain ⟨nd, rfl⟩ := hd.out
          clear hd
          go_wp2
          obtain ⟨wo, rfl⟩ : ∃ wo : World, wo = wr := ⟨_, rfl⟩
          go_loopw [55] (fun i wx => ∃ (j : Nat) (ys : List Int), j ≤ tv.length ∧ i = .int .i64 j ∧ Aside0 (ys.length = tv.length) ∧ Aside0 (Kd.R (Kd.int .u32) 29 wx wo.heap.size (fun _ => True) (.slice A4 ys.length c4) ys) ∧ Aside0 (IsBox w2 wx w2.heap.size 26 [] (ws.drop (atT ws.length a x)) (takeS (ws.drop a) x s)) ∧ Aside0 (IsS35 w2 wx (w2.heap.size + 1) ws (atT ws.length a x) (takeS (ws.drop a) x s)) ∧ Aside0 (Below w2.heap.size w2 wx)) (fun i _ => tv.length - (intOf i).toNat)
          case atStart => exact ⟨0, tv, Nat.zero_le _, rfl, ⟨rfl⟩, ⟨Kd.R_drewN HV5.out _⟩, ⟨HI5.out.below (pw_below_drewN (Below.refl _ _) _)⟩, ⟨isRef_below HX5.out (pw_below_drewN (Below.refl _ _) _)⟩, ⟨pw_below_drewN HZ5.out _⟩⟩
          case round =>
            clear HI5 HX5 HZ5 HV5 HI4 HX4 HZ4 HV4 HREF HR4 HR5 HC4 HC5 HK4 HI HX HZ HBW hcell
            obtain ⟨j, ys, hj, rfl, hyl, HV, HI, HX, HZ⟩ := hrel
            by_cases hjl : j < tv.length
            · obtain ⟨inner, ho⟩ := Kd.R_own HV.out
              obtain ⟨b, cap, he, _, _⟩ := ho.form (by have := hyl.out; omega)
              simp only [Value.slice.injEq, true_and] at he
              obtain ⟨rfl, rfl⟩ := he
              obtain ⟨hcl, hfz⟩ := Kd.R_cell (0 : Int) HV.out (j : Int) (by omega) (by have := hyl.out; omega)
              rw [Int.toNat_natCast] at hcl hfz
              have hbb := Kd.R_base HV.out b (by simp [Value.ownBlock])
              have hgw2 := hgw
              obtain ⟨z, hz⟩ : ∃ z, rdOf 0 ys (j : Int) = z := ⟨_, rfl⟩
              rw [hz] at hcl
              have HBB := Aside0.mk hbb
              clear hz ho hbb
              go_wp2
              go_roundw
              case rel =>
                have hput := (Kd.R_put HV.out (j : Int) ((z + 1) % 4294967296)).1
                rw [Int.toNat_natCast] at hput
                refine ⟨j + 1, ys.set j ((z + 1) % 4294967296), by omega, by go_num, ⟨by rw [List.length_set]; exact hyl.out⟩, ⟨by rw [List.length_set]; exact hput⟩, ⟨?_⟩, ⟨?_⟩, ⟨HZ.out.setCell (by have := HBB.out; show w2.heap.size ≤ b; omega) _⟩⟩
                · exact HI.out.far (p := ⟨b, j, none⟩) (by have := HBB.out; show w2.heap.size ≠ b; omega) _
                · exact isRef_far HX.out (p := ⟨b, j, none⟩) (by have := HBB.out; show w2.heap.size + 1 ≠ b; omega) _
              case measure => simp [intOf]; omega
            · obtain rfl : j = tv.length := by omega
              go_wp2
              go_meet
              case rel => exact ⟨atT ws.length a x, takeS (ws.drop a) x s, atT_le ha, HI, HX, HZ⟩
      case rest =>
        clear HI HX HZ HBW hcell
        obtain ⟨a, s, ha, HI, HX, HZ⟩ := hcut
        have HBW := Aside0.mk (HB2.out.trans (HZ.out.mono HB2.out.size))
        have hlr : (ws.drop a).length ≤ 300 := by rw [List.length_drop]; omega
        obtain ⟨Aa, ca, hxa0, hxa1, hca, hra⟩ := HI.out.cells HZ.out
        obtain ⟨Ab, cb, hxb0, hxb1, hxb2⟩ := isRef_cells HX.out
        obtain ⟨r, hrr⟩ : ∃ r, ws.drop a = r := ⟨_, rfl⟩
        have hrl : r.length = ws.length - a := by rw [← hrr, List.length_drop]
        rw [hrr] at hlr hxa0 hca hra
        have hdone : (decide (r.length = 0) && !s) = (decide (a = ws.length) && !s) := by
          rw [hrl]; congr 1; apply decide_eq_decide.2; omega
        have HRA := Aside0.mk hra
        have HCA := Aside0.mk hca
        obtain ⟨i0, hi0, _, hz1, _⟩ := info_parts info_u32
        have hcd := Kd.C_drop (m := a) (Kd.C_below HR.out HBW.out) ha HC.out
        rw [show (Kd.int IntKind.u32).sz = 1 from rfl, Nat.mul_one, hrr] at hcd
        have hsl := fun (w : World) => slice_from (P := Try.prog) 22 29 i0 Try.underlying22 hi0 hz1 A ws.length c a ha (by omega) w
        rw [← hrl] at hsl
        generalize (if c = a then A else A.map (·.add a)) = As at hcd hsl
        have HCD := Aside0.mk hcd
        have HCC := Aside0.mk (show r.length ≤ c - a by have := HC.out; omega)
        obtain ⟨D, hD⟩ : ∃ D, (decide (r.length = 0) && !s) = D := ⟨_, rfl⟩
        rw [hD] at hdone
        have HD := Aside0.mk hD
        have HD2 := Aside0.mk hdone.symm
        clear hra hca hcd hdone hD hrr hrl hi0 hz1
        have hbs : (s != s) = false := by cases s <;> rfl
        have hbd : (D != D) = false := by cases D <;> rfl
        go_wp2
        go_quiet ((first | (go_at_call 21; exact Calls.quiet_of_same ((done_reads _ Aa r.length ca s _ (by assumption) (by assumption)).mono (fun e w h => ⟨by rw [h.1, HD.out], h.2.symm⟩))) | (go_at_call 22; exact Calls.quiet_of ((refdone_reads _ Ab ws.length cb a s _ (by assumption) (by assumption) (by assumption)).mono (fun e w h => ⟨by rw [h.1, HD2.out], h.2⟩))) | (go_at_call 17; exact Calls.quiet_of ((portholeref02_Same.calls 1000 Aa ca r As (c - a) r true _ (Kd.C_drewN HRA.out _) HCA.out (Kd.C_drewN HCD.out _) HCC.out (same_refl 1000 _ (by omega) (by omega))).mono (fun e w h => ⟨h.1, h.2.out⟩)))))
        go_wp2
        go_roundw
        case rel => exact ⟨k + 1, a, s, by omega, ha, by go_num, ⟨HI.out.below (pw_below_drewN (Below.refl _ _) _)⟩, ⟨isRef_below HX.out (pw_below_drewN (Below.refl _ _) _)⟩, ⟨pw_below_drewN HZ.out _⟩⟩
        case measure => simp [intOf]; omega
    · obtain rfl : k = l.length := by omega
      have HRI' := Aside0.mk (Kd.C_below HRI.out HZ.out)
      have HR' := Aside0.mk (Kd.C_below HR.out HBW.out)
      clear HI HX
      go_wp2_with fail
      refine (portholeref02_Same.calls 1000 Ai ci ws A c ws true wr HRI'.out HCI.out HR'.out HC.out (same_refl 1000 _ (by omega) (by omega))).mono ?_
      rintro e w6 ⟨rfl, hd⟩
      have HD := Aside0.mk (below_drawn0 HBW.out hd)
      clear hd
      go_wp2
      go_ret
      exact ⟨rfl, HD.out⟩
end Go.Proofs.Ytndmdlnmjamgkaa.Box
