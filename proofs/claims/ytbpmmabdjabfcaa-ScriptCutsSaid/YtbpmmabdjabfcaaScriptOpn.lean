import Derived.Test.YtbpmmabdjabfcaaScriptPure
import Derived.Test.YtbpmmabdjabfcaaTableOpn
/- A job that came in. -/
namespace Go.Proofs.Ytbpmmabdjabfcaa.Script
open Go.RowKit Go.Proofs.YtbpmmabdjabfcaaW.PrintWords Go.Proofs.YtbpmmabdjabfcaaW.PrintLast Go.Proofs.YtbpmmabdjabfcaaW.PrintMore Go.Proofs.Ytbpmmabdjabfcaa.Box Go.Proofs.Ytbpmmabdjabfcaa.PT Go.Proofs.Ytbpmmabdjabfcaa.Table Go.Proofs.Ytbpmmabdjabfcaa.Opn
def W88 (n : Int) : Prop := (Lit.int .u64 n).wf = true
def VD (xs : List Int) : Prop := xs.length ≤ maxLen ∧ ∀ x ∈ xs, W32 x
theorem opn_data : Opn Try.prog 22 (Kd.slice 43 (Kd.int .u32)) VD := (opn_slice Try.underlying22 (by kernel_rfl) (opn_int Try.underlying43)).mono (fun _ h => h)
theorem opn_u64 : Opn Try.prog 88 (Kd.int .u64) W88 := opn_int Try.underlying88
def VQ (x : Req) : Prop := W64 x.op ∧ W64 x.port ∧ W88 x.addr ∧ VD x.data
theorem opn_req : Opn Try.prog 90 k90 VQ :=
  (opn_iso (fun x : Req => (x.op, x.port, x.addr, x.data)) (fun p => ⟨p.1, p.2.1, p.2.2.1, p.2.2.2⟩) (fun _ => rfl)
    (opn_struct Try.underlying90 (by kernel_rfl) (opnl_cons opn_i64 (opnl_cons opn_i64 (opnl_cons opn_u64 (opnl_one opn_data (by kernel_rfl) rfl) (by kernel_rfl) rfl rfl) (by kernel_rfl) rfl rfl) (by kernel_rfl) rfl rfl))).mono (fun _ h => h)
def VQs (xs : List Req) : Prop := xs.length ≤ maxLen ∧ ∀ x ∈ xs, VQ x
theorem opn_reqs : Opn Try.prog 87 kL VQs := (opn_slice Try.underlying87 (by kernel_rfl) opn_req).mono (fun _ h => h)
def VSs (xs : List (List Req)) : Prop := xs.length ≤ maxLen ∧ ∀ x ∈ xs, VQs x
theorem opn_streams : Opn Try.prog 45 (Kd.slice 87 kL) VSs := (opn_slice Try.underlying45 (by kernel_rfl) opn_reqs).mono (fun _ h => h)
def VAs (xs : List Int) : Prop := xs.length ≤ maxLen ∧ ∀ x ∈ xs, W64 x
theorem opn_acts : Opn Try.prog 46 (Kd.slice 3 (Kd.int .i64)) VAs := (opn_slice Try.underlying46 (by kernel_rfl) opn_i64).mono (fun _ h => h)
def kJob := Kd.pair kCfg (Kd.pair (Kd.slice 87 kL) (Kd.slice 3 (Kd.int .i64)))
abbrev JT := (List S64 × List S68 × (Int × List S72) × (Int × List S72)) × List (List Req) × List Int
def VSA (x : List (List Req) × List Int) : Prop := VSs x.1 ∧ VAs x.2
def VJ (x : JT) : Prop := VC x.1 ∧ VSA x.2
theorem opn_job : Opn Try.prog 48 kJob VJ := by
  have h : Opn Try.prog 48 kJob (fun x : JT => VC x.1 ∧ VSA x.2) := by
    refine opn_struct Try.underlying48 ?_ ?_
    · kernel_rfl
    · exact opnl_cons (V := VC) (V2 := VSA) (o := 6) opn_cfg (opnl_cons (V := VSs) (V2 := VAs) (o := 7) opn_streams (opnl_one opn_acts (by kernel_rfl) rfl) (by kernel_rfl) rfl rfl) (by kernel_rfl) rfl rfl
  exact h.mono (fun _ h => h)
def jobOf (x : JT) : Job := ⟨cfgOf x.1, x.2.1, x.2.2⟩
theorem isJob_of {w : World} {x : JT} {cs : Array Value} (h : kJob.K w x cs.toList) : ∃ A0 c0 A1 c1 A2 c2 A3 c3 A4 c4 A5 c5, cs = #[.slice A0 (jobOf x).cfg.ps.length c0, .slice A1 (jobOf x).cfg.xs.length c1, .int .i64 (jobOf x).cfg.l0, .slice A2 (jobOf x).cfg.ws0.length c2, .int .i64 (jobOf x).cfg.l1, .slice A3 (jobOf x).cfg.ws1.length c3, .slice A4 (jobOf x).streams.length c4, .slice A5 (jobOf x).acts.length c5] ∧ IsJob w (jobOf x) A0 c0 A1 c1 A2 c2 A3 c3 A4 c4 A5 c5 := by
  obtain ⟨q0, q1, e, hc, q2, q3, rfl, ⟨A4, c4, rfl, l4, h4⟩, ⟨A5, c5, rfl, l5, h5⟩⟩ := h
  obtain ⟨A0, c0, A1, c1, A2, c2, A3, c3, e0, hl, r0, r1, r2, r3⟩ := isCfg_of (cs := q0.toArray) (by simpa using hc)
  have e1 : q0 = [.slice A0 (cfgOf x.1).ps.length c0, .slice A1 (cfgOf x.1).xs.length c1, .int .i64 (cfgOf x.1).l0, .slice A2 (cfgOf x.1).ws0.length c2, .int .i64 (cfgOf x.1).l1, .slice A3 (cfgOf x.1).ws1.length c3] := by
    have h := congrArg Array.toList e0
    simpa using h
  refine ⟨A0, c0, A1, c1, A2, c2, A3, c3, A4, c4, A5, c5, ?_, ⟨⟨A0, c0, A1, c1, A2, c2, A3, c3, rfl, hl, r0, r1, r2, r3⟩, l4, h4, l5, h5⟩⟩
  rw [← Array.toArray_toList (xs := cs), e, e1]
  rfl
theorem wf_u64 {n : Int} (h : W88 n) : 0 ≤ n ∧ n ≤ 18446744073709551615 := bounds_u64 h
theorem good_of {x : JT} (h : VJ x) : GoodJ (jobOf x) := by
  refine ⟨fun y hy => bounds_u32 ((h.1.2.1.2 y hy).2.2.2.2.2.2), fun l hl q hq => wf_u64 ((h.2.1.2 l hl).2 q hq).2.2.1, fun l hl q hq => fun y hy => bounds_u32 (((h.2.1.2 l hl).2 q hq).2.2.2.2 y hy)⟩
theorem lens_of {x : JT} (h : VJ x) : (jobOf x).streams.length ≤ 9223372036854775807 ∧ (jobOf x).acts.length ≤ 9223372036854775807 ∧ (∀ l ∈ (jobOf x).streams, l.length ≤ 9223372036854775807) ∧ ∀ l ∈ (jobOf x).streams, ∀ q ∈ l, q.data.length ≤ 9223372036854775807 :=
  ⟨h.2.1.1, h.2.2.1, fun l hl => (h.2.1.2 l hl).1, fun l hl q hq => ((h.2.1.2 l hl).2 q hq).2.2.2.1⟩
/-! ### the words of a job that is told -/
theorem flat_len {α : Type} (f : α → List Int) (b : Nat) : ∀ l : List α, (∀ x ∈ l, (f x).length ≤ b) → (l.flatMap f).length ≤ b * l.length
  | [], _ => Nat.le_refl _
  | x :: l, h => by
    have h1 := h x (by simp)
    have h2 := flat_len f b l (fun y hy => h y (by simp [hy]))
    rw [List.flatMap_cons, List.length_append, List.length_cons, Nat.mul_succ]
    omega
theorem okQ_parts {u : Req} (h : okQ u = true) : fitB u.op = true ∧ fitB u.port = true ∧ u.data.length ≤ 64 := by
  unfold okQ at h
  simp only [Bool.and_eq_true, decide_eq_true_iff] at h
  exact h
theorem okL_parts {l : List Req} (h : okL l = true) : l.length ≤ 64 ∧ ∀ u ∈ l, okQ u = true := by
  unfold okL at h
  simp only [Bool.and_eq_true, decide_eq_true_iff] at h
  exact ⟨h.1, List.all_eq_true.1 h.2⟩
theorem jobL_len {j : Job} (h : toldJ j = true) (hf : fewB j.cfg = true) : (jobL j).length ≤ 1000000 := by
  obtain ⟨_, _, h3, h4, _, h6⟩ := told_parts h
  obtain ⟨g0, g1, g2, g3⟩ := (few_iff j.cfg).1 hf
  have hl := flat_len fL 4417 j.streams (fun l hl => by
    obtain ⟨a, b⟩ := okL_parts (List.all_eq_true.1 h6 l hl)
    have h2 := flat_len fQ 69 l (fun u hu => by
      have h5 := (okQ_parts (b u hu)).2.2
      unfold fQ
      simp only [List.length_cons]
      omega)
    unfold fL
    rw [List.length_cons]
    omega)
  unfold jobL restL
  simp only [List.length_cons, List.length_append, numsL_len]
  unfold cntW
  omega
theorem fit_range {v : Int} (h : fitB v = true) : 0 ≤ v ∧ v ≤ 4294967295 := of_decide_eq_true h
theorem jobL_words {j : Job} (hg : GoodJ j) (h : toldJ j = true) : Words (jobL j) := by
  obtain ⟨h1, _, h3, h4, h5, h6⟩ := told_parts h
  obtain ⟨_, hn, hf⟩ := printL_told j.cfg hg.boots h1
  obtain ⟨g0, g1, g2, g3⟩ := (few_iff j.cfg).1 hf
  have hnl : (numsL j.cfg).length ≤ 1000 := by rw [numsL_len]; unfold cntW; omega
  intro x hx
  unfold jobL restL at hx
  simp only [List.mem_cons, List.mem_append, List.mem_flatMap] at hx
  rcases hx with rfl | hx | rfl | ⟨l, hl, hx⟩ | rfl | hx
  · omega
  · exact hn x hx
  · omega
  · obtain ⟨a, b⟩ := okL_parts (List.all_eq_true.1 h6 l hl)
    unfold fL at hx
    simp only [List.mem_cons, List.mem_flatMap] at hx
    rcases hx with rfl | ⟨u, hu, hx⟩
    · omega
    · obtain ⟨c1, c2, c3⟩ := okQ_parts (b u hu)
      have hu2 := hg.addr l hl u hu
      unfold fQ at hx
      simp only [List.mem_cons] at hx
      rcases hx with rfl | rfl | rfl | rfl | rfl | hx
      · exact fit_range c1
      · exact fit_range c2
      · omega
      · omega
      · omega
      · exact hg.data l hl u hu x hx
  · omega
  · exact fit_range (List.all_eq_true.1 h5 x hx)
end Go.Proofs.Ytbpmmabdjabfcaa.Script
