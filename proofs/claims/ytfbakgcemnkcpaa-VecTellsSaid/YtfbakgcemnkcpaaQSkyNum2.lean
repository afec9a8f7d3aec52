/- Trees of functions, and what they come to. -/
import Derived.Test.YtfbakgcemnkcpaaQSkyO
import Derived.Test.YtfbakgcemnkcpaaQSkyRoot
set_option linter.unusedSimpArgs false
set_option linter.unusedVariables false
namespace Go.Sky
set_option maxRecDepth 100000

/-! num.Root, block 0 -/
def st_num_Root_0 (n : Int) (r : Int) (x1 x2 x4 x5 x6 x7 x8 x9 x10 x11 x12 x13 x14 x15 x16 x17 x18 x19 x20 x21 x22 x23 : AV) (h : AH) : St := ⟨[.int .u64 false n, x1, x2, .int .u64 false r, x4, x5, x6, x7, x8, x9, x10, x11, x12, x13, x14, x15, x16, x17, x18, x19, x20, x21, x22, x23], h⟩
def kl_num_Root_0 (n : Int) (r : Int) (x1 x2 x4 x5 x6 x7 x8 x9 x10 x11 x12 x13 x14 x15 x16 x17 x18 x19 x20 x21 x22 x23 : AV) (h : AH) : List AV := [untag (.int .u64 false n), untag x1, .undef, .undef, .undef, untag x5, untag x6, untag x7, untag x8, untag x9, untag x10, untag x11, .undef, .undef, .undef, .undef, .undef, .undef, .undef, .undef, .undef, .undef, .undef, .undef]
def sl_num_Root_0_1 (n : Int) (r : Int) (x1 x2 x4 x5 x6 x7 x8 x9 x10 x11 x12 x13 x14 x15 x16 x17 x18 x19 x20 x21 x22 x23 : AV) (h : AH) : St := ⟨[AV.int IntKind.u64 false n, x1, AV.int IntKind.i64 false (IntKind.i64.wrap r), AV.int IntKind.u64 false r, AV.int IntKind.u64 false (IntKind.u64.wrap ((IntKind.u64.wrap (r + IntKind.u64.wrap (n.tdiv r))).tdiv 2)), x5, x6, x7, x8, x9, x10, x11, AV.int IntKind.u64 false r, AV.int IntKind.u64 false n, AV.int IntKind.u64 false r, AV.int IntKind.u64 false (IntKind.u64.wrap (n.tdiv r)), AV.int IntKind.u64 false (IntKind.u64.wrap (r + IntKind.u64.wrap (n.tdiv r))), AV.int IntKind.u64 false (IntKind.u64.wrap ((IntKind.u64.wrap (r + IntKind.u64.wrap (n.tdiv r))).tdiv 2)), AV.int IntKind.u64 false (IntKind.u64.wrap ((IntKind.u64.wrap (r + IntKind.u64.wrap (n.tdiv r))).tdiv 2)), AV.int IntKind.u64 false r, AV.bool false (decide (IntKind.u64.wrap ((IntKind.u64.wrap (r + IntKind.u64.wrap (n.tdiv r))).tdiv 2) ≥ r)), AV.int IntKind.u64 false r, AV.int IntKind.i64 false (IntKind.i64.wrap r), x23], h⟩
def sl_num_Root_0_2 (n : Int) (r : Int) (x1 x2 x4 x5 x6 x7 x8 x9 x10 x11 x12 x13 x14 x15 x16 x17 x18 x19 x20 x21 x22 x23 : AV) (h : AH) : St := ⟨[AV.int IntKind.u64 false n, x1, x2, AV.int IntKind.u64 false (IntKind.u64.wrap ((IntKind.u64.wrap (r + IntKind.u64.wrap (n.tdiv r))).tdiv 2)), AV.int IntKind.u64 false (IntKind.u64.wrap ((IntKind.u64.wrap (r + IntKind.u64.wrap (n.tdiv r))).tdiv 2)), x5, x6, x7, x8, x9, x10, x11, AV.int IntKind.u64 false r, AV.int IntKind.u64 false n, AV.int IntKind.u64 false r, AV.int IntKind.u64 false (IntKind.u64.wrap (n.tdiv r)), AV.int IntKind.u64 false (IntKind.u64.wrap (r + IntKind.u64.wrap (n.tdiv r))), AV.int IntKind.u64 false (IntKind.u64.wrap ((IntKind.u64.wrap (r + IntKind.u64.wrap (n.tdiv r))).tdiv 2)), AV.int IntKind.u64 false (IntKind.u64.wrap ((IntKind.u64.wrap (r + IntKind.u64.wrap (n.tdiv r))).tdiv 2)), AV.int IntKind.u64 false r, AV.bool false (decide (IntKind.u64.wrap ((IntKind.u64.wrap (r + IntKind.u64.wrap (n.tdiv r))).tdiv 2) ≥ r)), x21, x22, AV.int IntKind.u64 false (IntKind.u64.wrap ((IntKind.u64.wrap (r + IntKind.u64.wrap (n.tdiv r))).tdiv 2))], h⟩
def rd_num_Root_0 (n : Int) (r : Int) (x1 x2 x4 x5 x6 x7 x8 x9 x10 x11 x12 x13 x14 x15 x16 x17 x18 x19 x20 x21 x22 x23 : AV) (h : AH) : Tr (Ex × St) := Tr.node (decide (r = 0)) (Tr.bad) (Tr.node (decide (IntKind.u64.wrap ((IntKind.u64.wrap (r + IntKind.u64.wrap (n.tdiv r))).tdiv 2) ≥ r)) (Tr.leaf (Ex.ret, sl_num_Root_0_1 n r x1 x2 x4 x5 x6 x7 x8 x9 x10 x11 x12 x13 x14 x15 x16 x17 x18 x19 x20 x21 x22 x23 h)) (Tr.leaf (Ex.normal, sl_num_Root_0_2 n r x1 x2 x4 x5 x6 x7 x8 x9 x10 x11 x12 x13 x14 x15 x16 x17 x18 x19 x20 x21 x22 x23 h)))
def g_num_Root_0 : PieceTold := fun l h => match l with | [.int .u64 false n, .int .u64 false r] => .node (decide (0 < n ∧ n ≤ 18446744073709551615 ∧ isq n ≤ r ∧ 0 < r ∧ r ≤ 4294967296)) (.leaf (.ret, [(2, i6 (isq n))], h)) .bad | _ => .bad
def HR_num_Root_0 (rnd : Nat → St → Tr (Ex × St)) : Prop := ∀ L (n : Int) (r : Int) (x1 x2 x4 x5 x6 x7 x8 x9 x10 x11 x12 x13 x14 x15 x16 x17 x18 x19 x20 x21 x22 x23 : AV) (h : AH), rnd L (st_num_Root_0 n r x1 x2 x4 x5 x6 x7 x8 x9 x10 x11 x12 x13 x14 x15 x16 x17 x18 x19 x20 x21 x22 x23 h) = rd_num_Root_0 n r x1 x2 x4 x5 x6 x7 x8 x9 x10 x11 x12 x13 x14 x15 x16 x17 x18 x19 x20 x21 x22 x23 h
/-- From here the loop ends so. -/
def Fin_num_Root_0 (rnd : Nat → St → Tr (Ex × St)) (n : Int) (r : Int) (e : Ex) (outs : List (Nat × AV)) (hp : AH → AH) : Prop := ∀ (x1 x2 x4 x5 x6 x7 x8 x9 x10 x11 x12 x13 x14 x15 x16 x17 x18 x19 x20 x21 x22 x23 : AV) (h : AH),
    ∃ N s', (∀ L, (loopIter (rnd L) (N + 1) (st_num_Root_0 n r x1 x2 x4 x5 x6 x7 x8 x9 x10 x11 x12 x13 x14 x15 x16 x17 x18 x19 x20 x21 x22 x23 h)).run = some (e, s')) ∧ Leaves 24 [2, 3, 4, 12, 13, 14, 15, 16, 17, 18, 19, 20, 21, 22, 23] (st_num_Root_0 n r x1 x2 x4 x5 x6 x7 x8 x9 x10 x11 x12 x13 x14 x15 x16 x17 x18 x19 x20 x21 x22 x23 h).tmps outs (hp h) s'
theorem stop_num_Root_0_1 {rnd : Nat → St → Tr (Ex × St)} (hr : HR_num_Root_0 rnd) (n : Int) (r : Int) (c0 : (decide (r = 0)) = false) (c1 : (decide (IntKind.u64.wrap ((IntKind.u64.wrap (r + IntKind.u64.wrap (n.tdiv r))).tdiv 2) ≥ r)) = true) {outs : List (Nat × AV)} {hp : AH → AH} (ho : ∀ (x1 x2 x4 x5 x6 x7 x8 x9 x10 x11 x12 x13 x14 x15 x16 x17 x18 x19 x20 x21 x22 x23 : AV) (h : AH), outs.map (fun p => untag ((sl_num_Root_0_1 n r x1 x2 x4 x5 x6 x7 x8 x9 x10 x11 x12 x13 x14 x15 x16 x17 x18 x19 x20 x21 x22 x23 h).tmps.getD p.1 .undef)) = outs.map (fun p => untag p.2)) (hh : ∀ h : AH, (h).map untagL = (hp h).map untagL) : Fin_num_Root_0 rnd n r (.ret) outs hp := by
  intro x1 x2 x4 x5 x6 x7 x8 x9 x10 x11 x12 x13 x14 x15 x16 x17 x18 x19 x20 x21 x22 x23 h
  refine ⟨0, sl_num_Root_0_1 n r x1 x2 x4 x5 x6 x7 x8 x9 x10 x11 x12 x13 x14 x15 x16 x17 x18 x19 x20 x21 x22 x23 h, fun L => ?_, ⟨hh h, rfl, ho x1 x2 x4 x5 x6 x7 x8 x9 x10 x11 x12 x13 x14 x15 x16 x17 x18 x19 x20 x21 x22 x23 h, ((show _ = kl_num_Root_0 n r x1 x2 x4 x5 x6 x7 x8 x9 x10 x11 x12 x13 x14 x15 x16 x17 x18 x19 x20 x21 x22 x23 h from rfl).trans (show kl_num_Root_0 n r x1 x2 x4 x5 x6 x7 x8 x9 x10 x11 x12 x13 x14 x15 x16 x17 x18 x19 x20 x21 x22 x23 h = _ from rfl))⟩⟩
  rw [loopIter, hr L n r x1 x2 x4 x5 x6 x7 x8 x9 x10 x11 x12 x13 x14 x15 x16 x17 x18 x19 x20 x21 x22 x23 h, Tr.run_bind, show (rd_num_Root_0 n r x1 x2 x4 x5 x6 x7 x8 x9 x10 x11 x12 x13 x14 x15 x16 x17 x18 x19 x20 x21 x22 x23 h).run = some (.ret, sl_num_Root_0_1 n r x1 x2 x4 x5 x6 x7 x8 x9 x10 x11 x12 x13 x14 x15 x16 x17 x18 x19 x20 x21 x22 x23 h) from (run_f c0).trans ((run_t c1).trans (rfl))]
  rfl
theorem step_num_Root_0_2 {rnd : Nat → St → Tr (Ex × St)} (hr : HR_num_Root_0 rnd) (n : Int) (r : Int) (c0 : (decide (r = 0)) = false) (c1 : (decide (IntKind.u64.wrap ((IntKind.u64.wrap (r + IntKind.u64.wrap (n.tdiv r))).tdiv 2) ≥ r)) = false) {e : Ex} {outs : List (Nat × AV)} {hp : AH → AH} (hn : Fin_num_Root_0 rnd (n) ((IntKind.u64.wrap ((IntKind.u64.wrap (r + IntKind.u64.wrap (n.tdiv r))).tdiv 2))) e outs hp) : Fin_num_Root_0 rnd n r e outs hp := by
  intro x1 x2 x4 x5 x6 x7 x8 x9 x10 x11 x12 x13 x14 x15 x16 x17 x18 x19 x20 x21 x22 x23 h
  obtain ⟨N, s', h1, h2⟩ := hn (x1) (x2) (AV.int IntKind.u64 false (IntKind.u64.wrap ((IntKind.u64.wrap (r + IntKind.u64.wrap (n.tdiv r))).tdiv 2))) (x5) (x6) (x7) (x8) (x9) (x10) (x11) (AV.int IntKind.u64 false r) (AV.int IntKind.u64 false n) (AV.int IntKind.u64 false r) (AV.int IntKind.u64 false (IntKind.u64.wrap (n.tdiv r))) (AV.int IntKind.u64 false (IntKind.u64.wrap (r + IntKind.u64.wrap (n.tdiv r)))) (AV.int IntKind.u64 false (IntKind.u64.wrap ((IntKind.u64.wrap (r + IntKind.u64.wrap (n.tdiv r))).tdiv 2))) (AV.int IntKind.u64 false (IntKind.u64.wrap ((IntKind.u64.wrap (r + IntKind.u64.wrap (n.tdiv r))).tdiv 2))) (AV.int IntKind.u64 false r) (AV.bool false (decide (IntKind.u64.wrap ((IntKind.u64.wrap (r + IntKind.u64.wrap (n.tdiv r))).tdiv 2) ≥ r))) (x21) (x22) (AV.int IntKind.u64 false (IntKind.u64.wrap ((IntKind.u64.wrap (r + IntKind.u64.wrap (n.tdiv r))).tdiv 2))) h
  refine ⟨N + 1, s', fun L => ?_, h2.of ((show _ = kl_num_Root_0 n r x1 x2 x4 x5 x6 x7 x8 x9 x10 x11 x12 x13 x14 x15 x16 x17 x18 x19 x20 x21 x22 x23 h from rfl).trans (show kl_num_Root_0 n r x1 x2 x4 x5 x6 x7 x8 x9 x10 x11 x12 x13 x14 x15 x16 x17 x18 x19 x20 x21 x22 x23 h = _ from rfl))⟩
  rw [loopIter, hr L n r x1 x2 x4 x5 x6 x7 x8 x9 x10 x11 x12 x13 x14 x15 x16 x17 x18 x19 x20 x21 x22 x23 h, Tr.run_bind, show (rd_num_Root_0 n r x1 x2 x4 x5 x6 x7 x8 x9 x10 x11 x12 x13 x14 x15 x16 x17 x18 x19 x20 x21 x22 x23 h).run = some (.normal, sl_num_Root_0_2 n r x1 x2 x4 x5 x6 x7 x8 x9 x10 x11 x12 x13 x14 x15 x16 x17 x18 x19 x20 x21 x22 x23 h) from (run_f c0).trans ((run_f c1).trans (rfl))]
  exact h1 L
theorem core_num_Root_0 (rnd : Nat → St → Tr (Ex × St)) (hr : HR_num_Root_0 rnd) : ∀ (n : Int) (r : Int), 0 < n ∧ n ≤ 18446744073709551615 ∧ isq n ≤ r ∧ 0 < r ∧ r ≤ 4294967296 → Fin_num_Root_0 rnd n r (.ret) [(2, i6 (isq n))] (fun h => h) := by
  have key : ∀ (m : Nat) (n r : Int), r.toNat = m → 0 < n ∧ n ≤ 18446744073709551615 ∧ isq n ≤ r ∧ 0 < r ∧ r ≤ 4294967296 → Fin_num_Root_0 rnd n r .ret [(2, i6 (isq n))] (fun h => h) := by
    intro m
    induction m using Nat.strongRecOn with
    | _ m ih =>
      intro n r hm ⟨h1, h2, h3, h4, h5⟩
      obtain ⟨s0, s1, s2, s3⟩ := isq_spec (n := n) (by omega) (by omega)
      obtain ⟨nw1, nw2⟩ := newton s0 s2 s3 h4 h3
      have hs1 : 1 ≤ isq n := by
        rcases (show isq n = 0 ∨ 1 ≤ isq n by omega) with e | e
        · rw [e] at s3; omega
        · exact e
      have hq := div_small s0 s3 h4 h3 hs1
      have hq0 : 0 ≤ n / r := Int.ediv_nonneg (by omega) (by omega)
      have s4 := isq_32 (n := n) (by omega) (by omega)
      have e1 : n.tdiv r = n / r := Int.tdiv_eq_ediv_of_nonneg (by omega)
      have e2 : IntKind.u64.wrap (n.tdiv r) = n / r := by rw [e1]; exact wrap_u64_id (by omega)
      have e3 : IntKind.u64.wrap (r + n / r) = r + n / r := wrap_u64_id (by omega)
      have e4 : (r + n / r).tdiv 2 = (r + n / r) / 2 := Int.tdiv_eq_ediv_of_nonneg (by omega)
      have e5 : IntKind.u64.wrap ((r + n / r) / 2) = (r + n / r) / 2 := wrap_u64_id (by omega)
      have c0 : decide (r = 0) = false := decide_eq_false (by omega)
      by_cases hc : (r + n / r) / 2 ≥ r
      · have hr' := nw2 hc
        refine stop_num_Root_0_1 hr n r c0 (by rw [e2, e3, e4, e5]; exact decide_eq_true hc) ?_ (fun h => rfl)
        intros
        simp only [sl_num_Root_0_1, List.map_cons, List.map_nil, List.getD_cons_succ, List.getD_cons_zero, untag, i6]
        rw [wrap_i64_id (by omega), ← hr']
      · refine step_num_Root_0_2 hr n r c0 (by rw [e2, e3, e4, e5]; exact decide_eq_false hc) ?_
        rw [e2, e3, e4, e5]
        exact ih _ (by omega) n _ rfl ⟨h1, h2, nw1, by omega, by omega⟩
  exact fun n r hc => key _ n r rfl hc
theorem piece_num_Root_0 {P : Program} {T : Table} {O' : Known} {f : FuncId} (hb : blockOf P f 0 = .loop (loopOf P f 0)) (hid : O' 0 = none)
    (hr : HR_num_Root_0 (fun L => evCode P (evCall P T 16 4) L O' (loopOf P f 0))) :
    ∀ (s : St) (e : Ex) (outs : List (Nat × AV)) (hp : AH), s.tmps.length = 24 → (g_num_Root_0 (([0, 3] : List Nat).map fun j => untag (s.tmps.getD j .undef)) (s.heap.map untagL)).run = some (e, outs, hp) → ∃ s', Good P T O' f 0 24 [2, 3, 4, 12, 13, 14, 15, 16, 17, 18, 19, 20, 21, 22, 23] s e outs hp s' := by
  intro s e outs hp hk hg
  obtain ⟨tm, h⟩ := s
  have htm : untagL tm = [untag (tm.getD 0 .undef), untag (tm.getD 1 .undef), untag (tm.getD 2 .undef), untag (tm.getD 3 .undef), untag (tm.getD 4 .undef), untag (tm.getD 5 .undef), untag (tm.getD 6 .undef), untag (tm.getD 7 .undef), untag (tm.getD 8 .undef), untag (tm.getD 9 .undef), untag (tm.getD 10 .undef), untag (tm.getD 11 .undef), untag (tm.getD 12 .undef), untag (tm.getD 13 .undef), untag (tm.getD 14 .undef), untag (tm.getD 15 .undef), untag (tm.getD 16 .undef), untag (tm.getD 17 .undef), untag (tm.getD 18 .undef), untag (tm.getD 19 .undef), untag (tm.getD 20 .undef), untag (tm.getD 21 .undef), untag (tm.getD 22 .undef), untag (tm.getD 23 .undef)] := tmps_eq hk
  unfold g_num_Root_0 at hg
  simp only [List.map_cons, List.map_nil] at hg
  split at hg
  · rename_i n r heq
    simp only [List.cons.injEq, and_true] at heq
    obtain ⟨e0, e3⟩ := heq
    simp only [Tr.run] at hg
    split at hg
    · rename_i hc
      simp only [Option.some.injEq, Prod.mk.injEq] at hg
      obtain ⟨rfl, rfl, rfl⟩ := hg
      rw [e0, e3] at htm
      obtain ⟨N, s', h1, h2⟩ := core_num_Root_0 (fun L => evCode P (evCall P T 16 4) L O' (loopOf P f 0)) hr n r (of_decide_eq_true hc) (untag (tm.getD 1 .undef)) (untag (tm.getD 2 .undef)) (untag (tm.getD 4 .undef)) (untag (tm.getD 5 .undef)) (untag (tm.getD 6 .undef)) (untag (tm.getD 7 .undef)) (untag (tm.getD 8 .undef)) (untag (tm.getD 9 .undef)) (untag (tm.getD 10 .undef)) (untag (tm.getD 11 .undef)) (untag (tm.getD 12 .undef)) (untag (tm.getD 13 .undef)) (untag (tm.getD 14 .undef)) (untag (tm.getD 15 .undef)) (untag (tm.getD 16 .undef)) (untag (tm.getD 17 .undef)) (untag (tm.getD 18 .undef)) (untag (tm.getD 19 .undef)) (untag (tm.getD 20 .undef)) (untag (tm.getD 21 .undef)) (untag (tm.getD 22 .undef)) (untag (tm.getD 23 .undef)) (h.map untagL)
      exact ⟨s', good_loop (e1 := .ret) hb hid 16 4 N (by rw [htm]; exact h1) (by rw [htm]; exact h2)⟩
    · cases hg
  · cases hg

/-! num.Root -/
def tr_num_Root (n : Int) : Tr AV := Tr.node (n == 0) (Tr.leaf (AV.int IntKind.i64 false 0)) (Tr.node (decide (IntKind.i64.wrap ((IntKind.i64.wrap (↑(Lib.bitLen n.toNat) + 1)).tdiv 2) < 0)) Tr.bad (Tr.node (decide (0 < n ∧ n ≤ 18446744073709551615 ∧ isq n ≤ IntKind.u64.wrap (1 * 2 ^ min (IntKind.i64.wrap ((IntKind.i64.wrap (↑(Lib.bitLen n.toNat) + 1)).tdiv 2)).toNat 64) ∧ 0 < IntKind.u64.wrap (1 * 2 ^ min (IntKind.i64.wrap ((IntKind.i64.wrap (↑(Lib.bitLen n.toNat) + 1)).tdiv 2)).toNat 64) ∧ IntKind.u64.wrap (1 * 2 ^ min (IntKind.i64.wrap ((IntKind.i64.wrap (↑(Lib.bitLen n.toNat) + 1)).tdiv 2)).toNat 64) ≤ 4294967296)) (Tr.leaf (AV.int IntKind.i64 false (isq n))) Tr.bad))
theorem run_num_Root (n : Int) (h_n : InR .u64 n) : (tr_num_Root n).run = some (i6 (isq n)) := by
  unfold tr_num_Root
  have hn := inR_u64.1 h_n
  by_cases h0 : n = 0
  · subst h0; rfl
  · obtain ⟨r, e1, e2, e3, e4, e5⟩ := root_start (n := n) (by omega) (by omega)
    rw [e1]
    refine (run_f (by simpa using h0)).trans ((run_f (decide_eq_false e5)).trans (run_t (decide_eq_true ⟨by omega, by omega, e2, e3, e4⟩)))

/-! skylightref01.Root, block 0 -/
def st_skylightref01_Root_0 (n : Int) (r : Int) (i : Int) (x1 x2 x5 x6 x7 x8 x9 x10 x11 x12 x13 x14 x15 x16 x17 x18 x19 x20 x21 : AV) (h : AH) : St := ⟨[.int .u64 false n, x1, x2, .int .u64 false r, .int .i64 false i, x5, x6, x7, x8, x9, x10, x11, x12, x13, x14, x15, x16, x17, x18, x19, x20, x21], h⟩
def kl_skylightref01_Root_0 (n : Int) (r : Int) (i : Int) (x1 x2 x5 x6 x7 x8 x9 x10 x11 x12 x13 x14 x15 x16 x17 x18 x19 x20 x21 : AV) (h : AH) : List AV := [untag (.int .u64 false n), untag x1, untag x2, .undef, .undef, .undef, .undef, .undef, .undef, .undef, .undef, .undef, .undef, .undef, .undef, .undef, .undef, .undef, .undef, .undef, untag x20, untag x21]
def sl_skylightref01_Root_0_1 (n : Int) (r : Int) (i : Int) (x1 x2 x5 x6 x7 x8 x9 x10 x11 x12 x13 x14 x15 x16 x17 x18 x19 x20 x21 : AV) (h : AH) : St := ⟨[AV.int IntKind.u64 false n, x1, x2, AV.int IntKind.u64 false (IntKind.u64.wrap (r + IntKind.u64.wrap (1 * 2 ^ min i.toNat 64))), AV.int IntKind.i64 false (IntKind.i64.wrap (i - 1)), AV.int IntKind.u64 false (IntKind.u64.wrap (r + IntKind.u64.wrap (1 * 2 ^ min i.toNat 64))), AV.int IntKind.i64 false i, AV.bool false (decide (i ≥ 0)), AV.int IntKind.i64 false i, AV.int IntKind.i64 false (IntKind.i64.wrap (i - 1)), AV.int IntKind.u64 false r, AV.int IntKind.i64 false i, AV.int IntKind.u64 false (IntKind.u64.wrap (1 * 2 ^ min i.toNat 64)), AV.int IntKind.u64 false (IntKind.u64.wrap (r + IntKind.u64.wrap (1 * 2 ^ min i.toNat 64))), AV.int IntKind.u64 false (IntKind.u64.wrap (r + IntKind.u64.wrap (1 * 2 ^ min i.toNat 64))), AV.int IntKind.u64 false (IntKind.u64.wrap (r + IntKind.u64.wrap (1 * 2 ^ min i.toNat 64))), AV.int IntKind.u64 false (IntKind.u64.wrap (IntKind.u64.wrap (r + IntKind.u64.wrap (1 * 2 ^ min i.toNat 64)) * IntKind.u64.wrap (r + IntKind.u64.wrap (1 * 2 ^ min i.toNat 64)))), AV.int IntKind.u64 false n, AV.bool false (decide (IntKind.u64.wrap (IntKind.u64.wrap (r + IntKind.u64.wrap (1 * 2 ^ min i.toNat 64)) * IntKind.u64.wrap (r + IntKind.u64.wrap (1 * 2 ^ min i.toNat 64))) ≤ n)), AV.int IntKind.u64 false (IntKind.u64.wrap (r + IntKind.u64.wrap (1 * 2 ^ min i.toNat 64))), x20, x21], h⟩
def sl_skylightref01_Root_0_2 (n : Int) (r : Int) (i : Int) (x1 x2 x5 x6 x7 x8 x9 x10 x11 x12 x13 x14 x15 x16 x17 x18 x19 x20 x21 : AV) (h : AH) : St := ⟨[AV.int IntKind.u64 false n, x1, x2, AV.int IntKind.u64 false r, AV.int IntKind.i64 false (IntKind.i64.wrap (i - 1)), AV.int IntKind.u64 false (IntKind.u64.wrap (r + IntKind.u64.wrap (1 * 2 ^ min i.toNat 64))), AV.int IntKind.i64 false i, AV.bool false (decide (i ≥ 0)), AV.int IntKind.i64 false i, AV.int IntKind.i64 false (IntKind.i64.wrap (i - 1)), AV.int IntKind.u64 false r, AV.int IntKind.i64 false i, AV.int IntKind.u64 false (IntKind.u64.wrap (1 * 2 ^ min i.toNat 64)), AV.int IntKind.u64 false (IntKind.u64.wrap (r + IntKind.u64.wrap (1 * 2 ^ min i.toNat 64))), AV.int IntKind.u64 false (IntKind.u64.wrap (r + IntKind.u64.wrap (1 * 2 ^ min i.toNat 64))), AV.int IntKind.u64 false (IntKind.u64.wrap (r + IntKind.u64.wrap (1 * 2 ^ min i.toNat 64))), AV.int IntKind.u64 false (IntKind.u64.wrap (IntKind.u64.wrap (r + IntKind.u64.wrap (1 * 2 ^ min i.toNat 64)) * IntKind.u64.wrap (r + IntKind.u64.wrap (1 * 2 ^ min i.toNat 64)))), AV.int IntKind.u64 false n, AV.bool false (decide (IntKind.u64.wrap (IntKind.u64.wrap (r + IntKind.u64.wrap (1 * 2 ^ min i.toNat 64)) * IntKind.u64.wrap (r + IntKind.u64.wrap (1 * 2 ^ min i.toNat 64))) ≤ n)), x19, x20, x21], h⟩
def sl_skylightref01_Root_0_3 (n : Int) (r : Int) (i : Int) (x1 x2 x5 x6 x7 x8 x9 x10 x11 x12 x13 x14 x15 x16 x17 x18 x19 x20 x21 : AV) (h : AH) : St := ⟨[AV.int IntKind.u64 false n, x1, x2, AV.int IntKind.u64 false r, AV.int IntKind.i64 false i, x5, AV.int IntKind.i64 false i, AV.bool false (decide (i ≥ 0)), x8, x9, x10, x11, x12, x13, x14, x15, x16, x17, x18, x19, x20, x21], h⟩
def rd_skylightref01_Root_0 (n : Int) (r : Int) (i : Int) (x1 x2 x5 x6 x7 x8 x9 x10 x11 x12 x13 x14 x15 x16 x17 x18 x19 x20 x21 : AV) (h : AH) : Tr (Ex × St) := Tr.node (decide (i ≥ 0)) (Tr.node (decide (i < 0)) (Tr.bad) (Tr.node (decide (IntKind.u64.wrap (IntKind.u64.wrap (r + IntKind.u64.wrap (1 * 2 ^ min i.toNat 64)) * IntKind.u64.wrap (r + IntKind.u64.wrap (1 * 2 ^ min i.toNat 64))) ≤ n)) (Tr.leaf (Ex.normal, sl_skylightref01_Root_0_1 n r i x1 x2 x5 x6 x7 x8 x9 x10 x11 x12 x13 x14 x15 x16 x17 x18 x19 x20 x21 h)) (Tr.leaf (Ex.normal, sl_skylightref01_Root_0_2 n r i x1 x2 x5 x6 x7 x8 x9 x10 x11 x12 x13 x14 x15 x16 x17 x18 x19 x20 x21 h)))) (Tr.leaf (Ex.exit 0, sl_skylightref01_Root_0_3 n r i x1 x2 x5 x6 x7 x8 x9 x10 x11 x12 x13 x14 x15 x16 x17 x18 x19 x20 x21 h))
def g_skylightref01_Root_0 : PieceTold := fun l h => match l with | [.int .u64 false n, .int .u64 false r, .int .i64 false i] => .node (decide (0 ≤ n ∧ n ≤ 18446744073709551615 ∧ 0 ≤ r ∧ -1 ≤ i ∧ i ≤ 31 ∧ r + 2 ^ (i + 1).toNat ≤ 4294967296)) (.leaf (.normal, [(3, u6 (isqGo (i + 1).toNat n r))], h)) .bad | _ => .bad
def HR_skylightref01_Root_0 (rnd : Nat → St → Tr (Ex × St)) : Prop := ∀ L (n : Int) (r : Int) (i : Int) (x1 x2 x5 x6 x7 x8 x9 x10 x11 x12 x13 x14 x15 x16 x17 x18 x19 x20 x21 : AV) (h : AH), rnd L (st_skylightref01_Root_0 n r i x1 x2 x5 x6 x7 x8 x9 x10 x11 x12 x13 x14 x15 x16 x17 x18 x19 x20 x21 h) = rd_skylightref01_Root_0 n r i x1 x2 x5 x6 x7 x8 x9 x10 x11 x12 x13 x14 x15 x16 x17 x18 x19 x20 x21 h
/-- From here the loop ends so. -/
def Fin_skylightref01_Root_0 (rnd : Nat → St → Tr (Ex × St)) (n : Int) (r : Int) (i : Int) (e : Ex) (outs : List (Nat × AV)) (hp : AH → AH) : Prop := ∀ (x1 x2 x5 x6 x7 x8 x9 x10 x11 x12 x13 x14 x15 x16 x17 x18 x19 x20 x21 : AV) (h : AH),
    ∃ N s', (∀ L, (loopIter (rnd L) (N + 1) (st_skylightref01_Root_0 n r i x1 x2 x5 x6 x7 x8 x9 x10 x11 x12 x13 x14 x15 x16 x17 x18 x19 x20 x21 h)).run = some (e, s')) ∧ Leaves 22 [3, 4, 5, 6, 7, 8, 9, 10, 11, 12, 13, 14, 15, 16, 17, 18, 19] (st_skylightref01_Root_0 n r i x1 x2 x5 x6 x7 x8 x9 x10 x11 x12 x13 x14 x15 x16 x17 x18 x19 x20 x21 h).tmps outs (hp h) s'
theorem step_skylightref01_Root_0_1 {rnd : Nat → St → Tr (Ex × St)} (hr : HR_skylightref01_Root_0 rnd) (n : Int) (r : Int) (i : Int) (c0 : (decide (i ≥ 0)) = true) (c1 : (decide (i < 0)) = false) (c2 : (decide (IntKind.u64.wrap (IntKind.u64.wrap (r + IntKind.u64.wrap (1 * 2 ^ min i.toNat 64)) * IntKind.u64.wrap (r + IntKind.u64.wrap (1 * 2 ^ min i.toNat 64))) ≤ n)) = true) {e : Ex} {outs : List (Nat × AV)} {hp : AH → AH} (hn : Fin_skylightref01_Root_0 rnd (n) ((IntKind.u64.wrap (r + IntKind.u64.wrap (1 * 2 ^ min i.toNat 64)))) ((IntKind.i64.wrap (i - 1))) e outs hp) : Fin_skylightref01_Root_0 rnd n r i e outs hp := by
  intro x1 x2 x5 x6 x7 x8 x9 x10 x11 x12 x13 x14 x15 x16 x17 x18 x19 x20 x21 h
  obtain ⟨N, s', h1, h2⟩ := hn (x1) (x2) (AV.int IntKind.u64 false (IntKind.u64.wrap (r + IntKind.u64.wrap (1 * 2 ^ min i.toNat 64)))) (AV.int IntKind.i64 false i) (AV.bool false (decide (i ≥ 0))) (AV.int IntKind.i64 false i) (AV.int IntKind.i64 false (IntKind.i64.wrap (i - 1))) (AV.int IntKind.u64 false r) (AV.int IntKind.i64 false i) (AV.int IntKind.u64 false (IntKind.u64.wrap (1 * 2 ^ min i.toNat 64))) (AV.int IntKind.u64 false (IntKind.u64.wrap (r + IntKind.u64.wrap (1 * 2 ^ min i.toNat 64)))) (AV.int IntKind.u64 false (IntKind.u64.wrap (r + IntKind.u64.wrap (1 * 2 ^ min i.toNat 64)))) (AV.int IntKind.u64 false (IntKind.u64.wrap (r + IntKind.u64.wrap (1 * 2 ^ min i.toNat 64)))) (AV.int IntKind.u64 false (IntKind.u64.wrap (IntKind.u64.wrap (r + IntKind.u64.wrap (1 * 2 ^ min i.toNat 64)) * IntKind.u64.wrap (r + IntKind.u64.wrap (1 * 2 ^ min i.toNat 64))))) (AV.int IntKind.u64 false n) (AV.bool false (decide (IntKind.u64.wrap (IntKind.u64.wrap (r + IntKind.u64.wrap (1 * 2 ^ min i.toNat 64)) * IntKind.u64.wrap (r + IntKind.u64.wrap (1 * 2 ^ min i.toNat 64))) ≤ n))) (AV.int IntKind.u64 false (IntKind.u64.wrap (r + IntKind.u64.wrap (1 * 2 ^ min i.toNat 64)))) (x20) (x21) h
  refine ⟨N + 1, s', fun L => ?_, h2.of ((show _ = kl_skylightref01_Root_0 n r i x1 x2 x5 x6 x7 x8 x9 x10 x11 x12 x13 x14 x15 x16 x17 x18 x19 x20 x21 h from rfl).trans (show kl_skylightref01_Root_0 n r i x1 x2 x5 x6 x7 x8 x9 x10 x11 x12 x13 x14 x15 x16 x17 x18 x19 x20 x21 h = _ from rfl))⟩
  rw [loopIter, hr L n r i x1 x2 x5 x6 x7 x8 x9 x10 x11 x12 x13 x14 x15 x16 x17 x18 x19 x20 x21 h, Tr.run_bind, show (rd_skylightref01_Root_0 n r i x1 x2 x5 x6 x7 x8 x9 x10 x11 x12 x13 x14 x15 x16 x17 x18 x19 x20 x21 h).run = some (.normal, sl_skylightref01_Root_0_1 n r i x1 x2 x5 x6 x7 x8 x9 x10 x11 x12 x13 x14 x15 x16 x17 x18 x19 x20 x21 h) from (run_t c0).trans ((run_f c1).trans ((run_t c2).trans (rfl)))]
  exact h1 L
theorem step_skylightref01_Root_0_2 {rnd : Nat → St → Tr (Ex × St)} (hr : HR_skylightref01_Root_0 rnd) (n : Int) (r : Int) (i : Int) (c0 : (decide (i ≥ 0)) = true) (c1 : (decide (i < 0)) = false) (c2 : (decide (IntKind.u64.wrap (IntKind.u64.wrap (r + IntKind.u64.wrap (1 * 2 ^ min i.toNat 64)) * IntKind.u64.wrap (r + IntKind.u64.wrap (1 * 2 ^ min i.toNat 64))) ≤ n)) = false) {e : Ex} {outs : List (Nat × AV)} {hp : AH → AH} (hn : Fin_skylightref01_Root_0 rnd (n) (r) ((IntKind.i64.wrap (i - 1))) e outs hp) : Fin_skylightref01_Root_0 rnd n r i e outs hp := by
  intro x1 x2 x5 x6 x7 x8 x9 x10 x11 x12 x13 x14 x15 x16 x17 x18 x19 x20 x21 h
  obtain ⟨N, s', h1, h2⟩ := hn (x1) (x2) (AV.int IntKind.u64 false (IntKind.u64.wrap (r + IntKind.u64.wrap (1 * 2 ^ min i.toNat 64)))) (AV.int IntKind.i64 false i) (AV.bool false (decide (i ≥ 0))) (AV.int IntKind.i64 false i) (AV.int IntKind.i64 false (IntKind.i64.wrap (i - 1))) (AV.int IntKind.u64 false r) (AV.int IntKind.i64 false i) (AV.int IntKind.u64 false (IntKind.u64.wrap (1 * 2 ^ min i.toNat 64))) (AV.int IntKind.u64 false (IntKind.u64.wrap (r + IntKind.u64.wrap (1 * 2 ^ min i.toNat 64)))) (AV.int IntKind.u64 false (IntKind.u64.wrap (r + IntKind.u64.wrap (1 * 2 ^ min i.toNat 64)))) (AV.int IntKind.u64 false (IntKind.u64.wrap (r + IntKind.u64.wrap (1 * 2 ^ min i.toNat 64)))) (AV.int IntKind.u64 false (IntKind.u64.wrap (IntKind.u64.wrap (r + IntKind.u64.wrap (1 * 2 ^ min i.toNat 64)) * IntKind.u64.wrap (r + IntKind.u64.wrap (1 * 2 ^ min i.toNat 64))))) (AV.int IntKind.u64 false n) (AV.bool false (decide (IntKind.u64.wrap (IntKind.u64.wrap (r + IntKind.u64.wrap (1 * 2 ^ min i.toNat 64)) * IntKind.u64.wrap (r + IntKind.u64.wrap (1 * 2 ^ min i.toNat 64))) ≤ n))) (x19) (x20) (x21) h
  refine ⟨N + 1, s', fun L => ?_, h2.of ((show _ = kl_skylightref01_Root_0 n r i x1 x2 x5 x6 x7 x8 x9 x10 x11 x12 x13 x14 x15 x16 x17 x18 x19 x20 x21 h from rfl).trans (show kl_skylightref01_Root_0 n r i x1 x2 x5 x6 x7 x8 x9 x10 x11 x12 x13 x14 x15 x16 x17 x18 x19 x20 x21 h = _ from rfl))⟩
  rw [loopIter, hr L n r i x1 x2 x5 x6 x7 x8 x9 x10 x11 x12 x13 x14 x15 x16 x17 x18 x19 x20 x21 h, Tr.run_bind, show (rd_skylightref01_Root_0 n r i x1 x2 x5 x6 x7 x8 x9 x10 x11 x12 x13 x14 x15 x16 x17 x18 x19 x20 x21 h).run = some (.normal, sl_skylightref01_Root_0_2 n r i x1 x2 x5 x6 x7 x8 x9 x10 x11 x12 x13 x14 x15 x16 x17 x18 x19 x20 x21 h) from (run_t c0).trans ((run_f c1).trans ((run_f c2).trans (rfl)))]
  exact h1 L
theorem stop_skylightref01_Root_0_3 {rnd : Nat → St → Tr (Ex × St)} (hr : HR_skylightref01_Root_0 rnd) (n : Int) (r : Int) (i : Int) (c0 : (decide (i ≥ 0)) = false) {outs : List (Nat × AV)} {hp : AH → AH} (ho : ∀ (x1 x2 x5 x6 x7 x8 x9 x10 x11 x12 x13 x14 x15 x16 x17 x18 x19 x20 x21 : AV) (h : AH), outs.map (fun p => untag ((sl_skylightref01_Root_0_3 n r i x1 x2 x5 x6 x7 x8 x9 x10 x11 x12 x13 x14 x15 x16 x17 x18 x19 x20 x21 h).tmps.getD p.1 .undef)) = outs.map (fun p => untag p.2)) (hh : ∀ h : AH, (h).map untagL = (hp h).map untagL) : Fin_skylightref01_Root_0 rnd n r i (.exit 0) outs hp := by
  intro x1 x2 x5 x6 x7 x8 x9 x10 x11 x12 x13 x14 x15 x16 x17 x18 x19 x20 x21 h
  refine ⟨0, sl_skylightref01_Root_0_3 n r i x1 x2 x5 x6 x7 x8 x9 x10 x11 x12 x13 x14 x15 x16 x17 x18 x19 x20 x21 h, fun L => ?_, ⟨hh h, rfl, ho x1 x2 x5 x6 x7 x8 x9 x10 x11 x12 x13 x14 x15 x16 x17 x18 x19 x20 x21 h, ((show _ = kl_skylightref01_Root_0 n r i x1 x2 x5 x6 x7 x8 x9 x10 x11 x12 x13 x14 x15 x16 x17 x18 x19 x20 x21 h from rfl).trans (show kl_skylightref01_Root_0 n r i x1 x2 x5 x6 x7 x8 x9 x10 x11 x12 x13 x14 x15 x16 x17 x18 x19 x20 x21 h = _ from rfl))⟩⟩
  rw [loopIter, hr L n r i x1 x2 x5 x6 x7 x8 x9 x10 x11 x12 x13 x14 x15 x16 x17 x18 x19 x20 x21 h, Tr.run_bind, show (rd_skylightref01_Root_0 n r i x1 x2 x5 x6 x7 x8 x9 x10 x11 x12 x13 x14 x15 x16 x17 x18 x19 x20 x21 h).run = some (.exit 0, sl_skylightref01_Root_0_3 n r i x1 x2 x5 x6 x7 x8 x9 x10 x11 x12 x13 x14 x15 x16 x17 x18 x19 x20 x21 h) from (run_f c0).trans (rfl)]
  rfl
theorem core_skylightref01_Root_0 (rnd : Nat → St → Tr (Ex × St)) (hr : HR_skylightref01_Root_0 rnd) : ∀ (n : Int) (r : Int) (i : Int), 0 ≤ n ∧ n ≤ 18446744073709551615 ∧ 0 ≤ r ∧ -1 ≤ i ∧ i ≤ 31 ∧ r + 2 ^ (i + 1).toNat ≤ 4294967296 → Fin_skylightref01_Root_0 rnd n r i (.exit 0) [(3, u6 (isqGo (i + 1).toNat n r))] (fun h => h) := by
  have key : ∀ (m : Nat) (n r i : Int), (i + 1).toNat = m → 0 ≤ n ∧ n ≤ 18446744073709551615 ∧ 0 ≤ r ∧ -1 ≤ i ∧ i ≤ 31 ∧ r + 2 ^ (i + 1).toNat ≤ 4294967296 → Fin_skylightref01_Root_0 rnd n r i (.exit 0) [(3, u6 (isqGo (i + 1).toNat n r))] (fun h => h) := by
    intro m
    induction m with
    | zero =>
      intro n r i hm ⟨h1, h2, h3, h4, h5, h6⟩
      refine stop_skylightref01_Root_0_3 hr n r i (decide_eq_false (by omega)) ?_ (fun h => rfl)
      intros
      rw [hm]; rfl
    | succ m ih =>
      intro n r i hm ⟨h1, h2, h3, h4, h5, h6⟩
      have hi : i.toNat = m := by omega
      rw [hm] at h6 ⊢
      have hp : (0 : Int) < 2 ^ m := Int.pow_pos (by decide)
      have hpe : (2 : Int) ^ (m + 1) = 2 ^ m + 2 ^ m := by rw [Int.pow_succ]; omega
      have e1 : IntKind.u64.wrap (1 * 2 ^ min i.toNat 64) = 2 ^ m := by rw [hi, show min m 64 = m by omega, Int.one_mul]; exact wrap_u64_id (by omega)
      have e2 : IntKind.u64.wrap (r + 2 ^ m) = r + 2 ^ m := wrap_u64_id (by omega)
      have e3 : IntKind.u64.wrap ((r + 2 ^ m) * (r + 2 ^ m)) = (r + 2 ^ m) * (r + 2 ^ m) := by
        have a : (r + 2 ^ m) * (r + 2 ^ m) ≤ 4294967295 * 4294967295 := Int.mul_le_mul (by omega) (by omega) (by omega) (by omega)
        have b : 0 ≤ (r + 2 ^ m) * (r + 2 ^ m) := Int.mul_nonneg (by omega) (by omega)
        exact wrap_u64_id (by omega)
      have e4 : IntKind.i64.wrap (i - 1) = i - 1 := wrap_i64_id (by omega)
      have hi' : (i - 1 + 1).toNat = m := by omega
      have ee : ∀ x, isqGo (i - 1 + 1).toNat n x = isqGo m n x := fun x => by rw [hi']
      by_cases hc : (r + 2 ^ m) * (r + 2 ^ m) ≤ n
      · refine step_skylightref01_Root_0_1 hr n r i (decide_eq_true (by omega)) (decide_eq_false (by omega)) (by rw [e1, e2, e3]; exact decide_eq_true hc) ?_
        rw [e1, e2, e4]
        have := ih n (r + 2 ^ m) (i - 1) hi' ⟨h1, h2, by omega, by omega, by omega, by rw [hi']; omega⟩
        rw [ee] at this
        rw [show isqGo (m + 1) n r = isqGo m n (r + 2 ^ m) by simp only [isqGo]; rw [if_pos hc]]
        exact this
      · refine step_skylightref01_Root_0_2 hr n r i (decide_eq_true (by omega)) (decide_eq_false (by omega)) (by rw [e1, e2, e3]; exact decide_eq_false hc) ?_
        rw [e4]
        have := ih n r (i - 1) hi' ⟨h1, h2, by omega, by omega, by omega, by rw [hi']; omega⟩
        rw [ee] at this
        rw [show isqGo (m + 1) n r = isqGo m n r by simp only [isqGo]; rw [if_neg hc]]
        exact this
  exact fun n r i hc => key _ n r i rfl hc
theorem piece_skylightref01_Root_0 {P : Program} {T : Table} {O' : Known} {f : FuncId} (hb : blockOf P f 0 = .loop (loopOf P f 0)) (hid : O' 0 = none)
    (hr : HR_skylightref01_Root_0 (fun L => evCode P (evCall P T 16 4) L O' (loopOf P f 0))) :
    ∀ (s : St) (e : Ex) (outs : List (Nat × AV)) (hp : AH), s.tmps.length = 22 → (g_skylightref01_Root_0 (([0, 3, 4] : List Nat).map fun j => untag (s.tmps.getD j .undef)) (s.heap.map untagL)).run = some (e, outs, hp) → ∃ s', Good P T O' f 0 22 [3, 4, 5, 6, 7, 8, 9, 10, 11, 12, 13, 14, 15, 16, 17, 18, 19] s e outs hp s' := by
  intro s e outs hp hk hg
  obtain ⟨tm, h⟩ := s
  have htm : untagL tm = [untag (tm.getD 0 .undef), untag (tm.getD 1 .undef), untag (tm.getD 2 .undef), untag (tm.getD 3 .undef), untag (tm.getD 4 .undef), untag (tm.getD 5 .undef), untag (tm.getD 6 .undef), untag (tm.getD 7 .undef), untag (tm.getD 8 .undef), untag (tm.getD 9 .undef), untag (tm.getD 10 .undef), untag (tm.getD 11 .undef), untag (tm.getD 12 .undef), untag (tm.getD 13 .undef), untag (tm.getD 14 .undef), untag (tm.getD 15 .undef), untag (tm.getD 16 .undef), untag (tm.getD 17 .undef), untag (tm.getD 18 .undef), untag (tm.getD 19 .undef), untag (tm.getD 20 .undef), untag (tm.getD 21 .undef)] := tmps_eq hk
  unfold g_skylightref01_Root_0 at hg
  simp only [List.map_cons, List.map_nil] at hg
  split at hg
  · rename_i n r i heq
    simp only [List.cons.injEq, and_true] at heq
    obtain ⟨e0, e3, e4⟩ := heq
    simp only [Tr.run] at hg
    split at hg
    · rename_i hc
      simp only [Option.some.injEq, Prod.mk.injEq] at hg
      obtain ⟨rfl, rfl, rfl⟩ := hg
      rw [e0, e3, e4] at htm
      obtain ⟨N, s', h1, h2⟩ := core_skylightref01_Root_0 (fun L => evCode P (evCall P T 16 4) L O' (loopOf P f 0)) hr n r i (of_decide_eq_true hc) (untag (tm.getD 1 .undef)) (untag (tm.getD 2 .undef)) (untag (tm.getD 5 .undef)) (untag (tm.getD 6 .undef)) (untag (tm.getD 7 .undef)) (untag (tm.getD 8 .undef)) (untag (tm.getD 9 .undef)) (untag (tm.getD 10 .undef)) (untag (tm.getD 11 .undef)) (untag (tm.getD 12 .undef)) (untag (tm.getD 13 .undef)) (untag (tm.getD 14 .undef)) (untag (tm.getD 15 .undef)) (untag (tm.getD 16 .undef)) (untag (tm.getD 17 .undef)) (untag (tm.getD 18 .undef)) (untag (tm.getD 19 .undef)) (untag (tm.getD 20 .undef)) (untag (tm.getD 21 .undef)) (h.map untagL)
      exact ⟨s', good_loop (e1 := .exit 0) hb hid 16 4 N (by rw [htm]; exact h1) (by rw [htm]; exact h2)⟩
    · cases hg
  · cases hg

/-! skylightref01.Root -/
def tr_skylightref01_Root (n : Int) : Tr AV := Tr.node (decide (0 ≤ n ∧ n ≤ 18446744073709551615 ∧ (0 : Int) ≤ 0 ∧ (-1 : Int) ≤ 31 ∧ (31 : Int) ≤ 31 ∧ (4294967296 : Int) ≤ 4294967296)) (Tr.leaf (AV.int IntKind.i64 false (IntKind.i64.wrap (isqGo 32 n 0)))) Tr.bad
theorem run_skylightref01_Root (n : Int) (h_n : InR .u64 n) : (tr_skylightref01_Root n).run = some (i6 (isq n)) := by
  unfold tr_skylightref01_Root
  have hn := inR_u64.1 h_n
  refine (run_t (decide_eq_true ⟨by omega, by omega, by omega, by omega, by omega, by omega⟩)).trans ?_
  have h := isqGo_spec 32 n 0 (by omega) (by omega) (by simp; omega)
  have e : isq n = isqGo 32 n 0 := isq_eq (by omega) (by omega) (by omega) h.2.2.1 h.2.2.2
  have h32 := isq_32 (n := n) (by omega) (by omega)
  have h0 := (isq_spec (n := n) (by omega) (by omega)).1
  rw [← e, wrap_i64_id (by omega)]
  rfl

end Go.Sky
