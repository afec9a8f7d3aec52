/- The evaluator's operations against the machine's: one theorem a class of operations. -/
import Derived.Test.YtfbakgcemnkcpaaQSkyE
set_option linter.unusedSimpArgs false
set_option linter.unusedVariables false
namespace Go.Sky
open Go.RowKit (Below)

section
variable {P : Program} {w : World} {B : Nat} {w0 : World} {φ : Ren}

theorem placesA_runL : ∀ {fs : List Field} {pl : List (Nat × Nat)}, placesA P fs = some pl → (fs.mapM (fun (f : Field) => Prod.mk f.offset <$> sizeOf f.type)).run P w = .ok pl w
  | [], pl, h => by simp only [placesA, Option.some.injEq] at h; subst h; simp
  | f :: fs, pl, h => by
    simp only [placesA] at h
    cases hn : sizeA P f.type with
    | none => simp [hn] at h
    | some n =>
      cases hl : placesA P fs with
      | none => simp [hn, hl] at h
      | some l => simp only [hn, hl, Option.some.injEq] at h; subst h; simp [sizeA_run hn, placesA_runL hl]

theorem placesA_run {fs : Array Field} {pl : List (Nat × Nat)} (h : placesA P fs.toList = some pl) : (fs.mapM (fun (f : Field) => Prod.mk f.offset <$> sizeOf f.type)).run P w = .ok pl.toArray w := by
  rw [Array.mapM_eq_mapM_toList]
  simp [placesA_runL h]

set_option maxHeartbeats 1000000 in
/-- What only reads: the world stays. -/
theorem evOp_pure {s : St} {o : Oper} {a : Act} {v : AV} {h' : AH} (hp : isReader o.op = true) (hr : (evOp P s o.op).run = some (v, h')) (H : HC φ s.heap w)
    (ht : LRel φ s.tmps a.tmps.toList) : h' = s.heap ∧ ∃ u, (execOp a.eval o).run P w = .ok (.value u) w ∧ ARel φ v u := by
  unfold execOp
  cases ho : o.op <;> simp only [ho, isReader, Bool.false_eq_true] at hp <;> simp only [ho, evOp] at hr <;> simp only []
  case move x =>
    (replace hr := opt_run hr); obtain ⟨u, hu, hr⟩ := hr; cases val_run hr
    exact ⟨rfl, _, rfl, ev_rel ht hu⟩
  case assign x =>
    (replace hr := opt_run hr); obtain ⟨u, hu, hr⟩ := hr; cases val_run hr
    exact ⟨rfl, _, rfl, ev_rel ht hu⟩
  case build t parts =>
    (replace hr := opt_run hr); obtain ⟨z, hz, hr⟩ := hr
    (replace hr := opt_run hr); obtain ⟨ps, hps, hr⟩ := hr
    obtain ⟨zv, hzv, hzr⟩ := zeroA_rel (w := w) (φ := φ) hz
    have hpr := evParts_rel ht hps
    have hparts : (parts.map fun x => match x with | (i, x) => (i, a.eval x)).toList = parts.toList.map fun p => (p.1, a.eval p.2) := by simp
    cases hu : P.underlying t with
    | none => simp [hu, Tr.run] at hr
    | some d =>
      cases d <;> simp only [hu] at hr <;> try (simp [Tr.run] at hr; done)
      case struct fields =>
        (replace hr := opt_run hr); obtain ⟨pl, hpl, hr⟩ := hr
        (replace hr := opt_run hr); obtain ⟨cs, hcs, hr⟩ := hr; cases val_run hr
        obtain ⟨cs', hf, hrel⟩ := fill_rel hpr (cells_rel hzr) hcs
        refine ⟨rfl, .agg cs', ?_, by simp only [ARel]; exact ⟨_, rfl, hrel⟩⟩
        simp [Instr.build, hzv, run_underlying hu, placesA_run hpl, hf]
      case array n e =>
        (replace hr := opt_run hr); obtain ⟨size, hs, hr⟩ := hr
        (replace hr := opt_run hr); obtain ⟨cs, hcs, hr⟩ := hr; cases val_run hr
        obtain ⟨cs', hf, hrel⟩ := fill_rel hpr (cells_rel hzr) hcs
        refine ⟨rfl, .agg cs', ?_, by simp only [ARel]; exact ⟨_, rfl, hrel⟩⟩
        simp [Instr.build, hzv, run_underlying hu, sizeA_run hs, hf]
  case load t x =>
    (replace hr := opt_run hr); obtain ⟨u, hu, hr⟩ := hr
    split at hr
    · rename_i b o
      (replace hr := opt_run hr); obtain ⟨r, hl, hr⟩ := hr; cases val_run hr
      have he := ev_rel ht hu
      simp only [ARel] at he
      obtain ⟨c, hc, he⟩ := he
      obtain ⟨v, hv, hrel⟩ := load_rel (P := P) H hc hl
      exact ⟨rfl, v, by simp [Instr.loadAt, Instr.sureAddr, he, hv], hrel⟩
    · simp [Tr.run] at hr
  case nilCheck x =>
    (replace hr := opt_run hr); obtain ⟨u, hu, hr⟩ := hr
    split at hr
    · rename_i p
      obtain ⟨b, o⟩ := p
      cases val_run hr
      have he := ev_rel ht hu
      have he' := he
      simp only [ARel] at he
      obtain ⟨c, hc, he⟩ := he
      rw [he] at he'
      exact ⟨rfl, _, by simp [he], he'⟩
    · simp [Tr.run] at hr
  case binOp op t x y yt =>
    (replace hr := opt_run hr); obtain ⟨p, hx, hr⟩ := hr
    (replace hr := opt_run hr); obtain ⟨q, hy, hr⟩ := hr
    have ex := ev_rel ht hx
    have ey := ev_rel ht hy
    split at hr
    · rename_i k l n k' m j
      simp only [ARel] at ex ey
      obtain ⟨ex, exr⟩ := ex; obtain ⟨ey, eyr⟩ := ey
      obtain ⟨h1, u, h2, h3⟩ := shiftInt_rel (P := P) (w := w) (φ := φ) (k' := k') t exr hr
      exact ⟨h1, u, by simp [ex, ey, guard_int, h2], h3⟩
    · rename_i k l n k' m j
      simp only [ARel] at ex ey
      obtain ⟨ex, exr⟩ := ex; obtain ⟨ey, eyr⟩ := ey
      obtain ⟨h1, u, h2, h3⟩ := shiftInt_rel (P := P) (w := w) (φ := φ) (k' := k') t exr hr
      exact ⟨h1, u, by simp [ex, ey, guard_int, h2], h3⟩
    · rename_i op' k l n k' m j _ _
      split at hr
      · rename_i hk
        subst hk
        simp only [ARel] at ex ey
        obtain ⟨ex, exr⟩ := ex; obtain ⟨ey, eyr⟩ := ey
        obtain ⟨h1, u, h2, h3⟩ := binInt_rel (P := P) (w := w) (φ := φ) exr hr
        exact ⟨h1, u, by simp [ex, ey, guard_int, binInt_type _ t, h2], h3⟩
      · simp [Tr.run] at hr
    · split at hr
      · simp [Tr.run] at hr
      · rename_i hg
        split at hr
        · rename_i l c he
          cases val_run hr
          have heq := eqA_rel Op.maxDepth t _ _ _ _ _ _ w he ex ey
          have hb := binEq (P := P) (w := w) he ex ey (fun k l n k' m j h => ‹∀ (k : IntKind) (l : Bool) (n : Int) (k' : IntKind) (m : Bool) (j : Int), p = AV.int k l n → q = AV.int k' m j → False› k l n k' m j h.1 h.2) (by unfold Op.equal; exact heq)
          exact ⟨rfl, .bool c, by simp [eqA_guard he ex ey .eql x y (by simpa using hg), hb.1], by simp [ARel]⟩
        · simp [Tr.run] at hr
    · split at hr
      · simp [Tr.run] at hr
      · rename_i hg
        split at hr
        · rename_i l c he
          cases val_run hr
          have heq := eqA_rel Op.maxDepth t _ _ _ _ _ _ w he ex ey
          have hb := binEq (P := P) (w := w) he ex ey (fun k l n k' m j h => ‹∀ (k : IntKind) (l : Bool) (n : Int) (k' : IntKind) (m : Bool) (j : Int), p = AV.int k l n → q = AV.int k' m j → False› k l n k' m j h.1 h.2) (by unfold Op.equal; exact heq)
          exact ⟨rfl, .bool (!c), by simp [eqA_guard he ex ey .neq x y (by simpa using hg), hb.2], by simp [ARel]⟩
        · simp [Tr.run] at hr
    · simp [Tr.run] at hr
  case unOp op t x =>
    (replace hr := opt_run hr); obtain ⟨p, hx, hr⟩ := hr
    have ex := ev_rel ht hx
    split at hr
    · cases val_run hr
      simp only [ARel] at ex
      obtain ⟨ex, exr⟩ := ex
      exact ⟨rfl, _, by rw [ex]; rfl, by simp [ARel, wrap_inR]⟩
    · cases val_run hr
      simp only [ARel] at ex
      obtain ⟨ex, exr⟩ := ex
      exact ⟨rfl, _, by rw [ex]; rfl, by simp [ARel, Go.bits, wrap_inR]⟩
    · cases val_run hr
      simp only [ARel] at ex
      exact ⟨rfl, _, by rw [ex]; rfl, by simp [ARel]⟩
    · simp [Tr.run] at hr
  case convert src dst x =>
    (replace hr := opt_run hr); obtain ⟨p, hx, hr⟩ := hr
    (replace hr := opt_run hr); obtain ⟨q, hc, hr⟩ := hr
    cases val_run hr
    obtain ⟨u, hu, hrel⟩ := convA_rel (P := P) (w := w) (ev_rel ht hx) hc
    exact ⟨rfl, u, by simp [hu], hrel⟩
  case makeInterface t x =>
    (replace hr := opt_run hr); obtain ⟨p, hx, hr⟩ := hr
    have ex := ev_rel ht hx
    cases hu : P.underlying t with
    | none => simp [hu, Tr.run] at hr
    | some d =>
      cases d <;> simp only [hu] at hr <;> first | (simp [Tr.run] at hr; done) | skip
      all_goals
        cases val_run hr
        exact ⟨rfl, .iface t (a.eval x), by simp [Instr.makeInterface, run_underlying hu], by simp only [ARel]; exact ⟨_, rfl, ex⟩⟩
  case makeFunc fn first captured =>
    (replace hr := opt_run hr); obtain ⟨p, hx, hr⟩ := hr
    (replace hr := opt_run hr); obtain ⟨q, hy, hr⟩ := hr
    split at hr
    · cases val_run hr
      refine ⟨rfl, _, rfl, ?_⟩
      simp only [ARel]
      exact ⟨_, _, rfl, by simpa using evs_rel ht hx, by simpa using evs_rel ht hy⟩
    · simp [Tr.run] at hr
  case fieldAddr t x f =>
    (replace hr := opt_run hr); obtain ⟨p, hx, hr⟩ := hr
    have ex := ev_rel ht hx
    split at hr
    · rename_i b o fields hu
      split at hr
      · rename_i fd hf
        (replace hr := opt_run hr); obtain ⟨n, hn, hr⟩ := hr
        split at hr
        · simp [Tr.run] at hr
        · rename_i hn0
          cases val_run hr
          simp only [ARel] at ex
          obtain ⟨c, hc, ex⟩ := ex
          refine ⟨rfl, .pointer (some ⟨c, o + fd.offset, none⟩), ?_, by simp only [ARel]; exact ⟨c, hc, rfl⟩⟩
          simp [Instr.fieldAt, run_underlying hu, hf, ex, Instr.sureAddr, fieldPlace, sizeA_run hn, hn0, add_none]
      · simp [Tr.run] at hr
    · simp [Tr.run] at hr
  case field t x f =>
    (replace hr := opt_run hr); obtain ⟨p, hx, hr⟩ := hr
    have ex := ev_rel ht hx
    split at hr
    · rename_i cs fields hu
      split at hr
      · rename_i fd hf
        (replace hr := opt_run hr); obtain ⟨r, hp2, hr⟩ := hr
        cases val_run hr
        simp only [ARel] at ex
        obtain ⟨cs', ex, hrel⟩ := ex
        obtain ⟨v, hv, hvr⟩ := part_rel (P := P) (w := w) hrel hp2
        exact ⟨rfl, v, by simp [Instr.field, run_underlying hu, hf, ex, asAgg, hv], hvr⟩
      · simp [Tr.run] at hr
    · simp [Tr.run] at hr
  case indexAddr t x i =>
    (replace hr := opt_run hr); obtain ⟨p, hx, hr⟩ := hr
    (replace hr := opt_run hr); obtain ⟨q, hi, hr⟩ := hr
    (replace hr := opt_run hr); obtain ⟨n, hn, hr⟩ := hr
    have ex := ev_rel ht hx
    have ei := ev_rel ht hi
    have hq : ∃ k, a.eval i = .int k n := by
      unfold litIx at hn
      split at hn
      · cases hn; simp only [ARel] at ei; exact ⟨_, ei.1⟩
      · cases hn
    obtain ⟨k, hk⟩ := hq
    split at hr
    · rename_i len elem b o hu
      (replace hr := opt_run hr); obtain ⟨size, hs, hr⟩ := hr
      split at hr
      · rename_i hb
        cases val_run hr
        simp only [ARel] at ex
        obtain ⟨c, hc, ex⟩ := ex
        refine ⟨rfl, .pointer (some ⟨c, o + n.toNat * size, none⟩), ?_, by simp only [ARel]; exact ⟨c, hc, rfl⟩⟩
        simp [Instr.indexAt, hk, asIntOf, run_underlying hu, ex, Instr.sureAddr, hb, sizeA_run hs, add_none]
      · simp [Tr.run] at hr
    · rename_i elem b o len cap hu
      (replace hr := opt_run hr); obtain ⟨size, hs, hr⟩ := hr
      split at hr
      · rename_i hb
        cases val_run hr
        simp only [ARel] at ex
        obtain ⟨c, hc, ex⟩ := ex
        refine ⟨rfl, .pointer (some ⟨c, o + n.toNat * size, none⟩), ?_, by simp only [ARel]; exact ⟨c, hc, rfl⟩⟩
        simp [Instr.indexAt, hk, asIntOf, run_underlying hu, ex, hb, sizeA_run hs, add_none]
      · simp [Tr.run] at hr
    · simp [Tr.run] at hr
  case index t x i =>
    (replace hr := opt_run hr); obtain ⟨p, hx, hr⟩ := hr
    (replace hr := opt_run hr); obtain ⟨q, hi, hr⟩ := hr
    (replace hr := opt_run hr); obtain ⟨n, hn, hr⟩ := hr
    have ex := ev_rel ht hx
    have ei := ev_rel ht hi
    have hq : ∃ k, a.eval i = .int k n := by
      unfold litIx at hn
      split at hn
      · cases hn; simp only [ARel] at ei; exact ⟨_, ei.1⟩
      · cases hn
    obtain ⟨k, hk⟩ := hq
    split at hr
    · rename_i len elem cs hu
      (replace hr := opt_run hr); obtain ⟨size, hs, hr⟩ := hr
      split at hr
      · rename_i hb
        (replace hr := opt_run hr); obtain ⟨r, hp2, hr⟩ := hr
        cases val_run hr
        simp only [ARel] at ex
        obtain ⟨cs', ex, hrel⟩ := ex
        obtain ⟨v, hv, hvr⟩ := part_rel (P := P) (w := w) hrel hp2
        exact ⟨rfl, v, by simp [Instr.index, hk, asIntOf, run_underlying hu, ex, hb, sizeA_run hs, hv], hvr⟩
      · simp [Tr.run] at hr
    · simp [Tr.run] at hr
  case slice t x lo hi mx =>
    cases lo <;> cases hi <;> cases mx <;> simp only [evOp] at hr <;> first | (simp [Tr.run] at hr; done) | skip
    · (replace hr := opt_run hr); obtain ⟨p, hx, hr⟩ := hr
      have ex := ev_rel ht hx
      split at hr
      · rename_i n e b o hu
        (replace hr := opt_run hr); obtain ⟨size, hs, hr⟩ := hr
        cases val_run hr
        simp only [ARel] at ex
        obtain ⟨c, hc, ex⟩ := ex
        refine ⟨rfl, .slice (some ⟨c, o, none⟩) n n, ?_, by simp only [ARel]; exact ⟨c, hc, rfl⟩⟩
        simp [Instr.sliceAt, run_underlying hu, ex, Instr.sureAddr, Instr.sliceBounds, sizeA_run hs, add_none]
      · rename_i e p n k hu
        (replace hr := opt_run hr); obtain ⟨size, hs, hr⟩ := hr
        cases val_run hr
        refine ⟨rfl, _, ?_, ex⟩
        cases p with
        | none => simp only [ARel] at ex; simp [Instr.sliceAt, Instr.slice, run_underlying hu, ex, Instr.sliceBounds, sizeA_run hs]
        | some p => obtain ⟨b, o⟩ := p; simp only [ARel] at ex; obtain ⟨c, hc, ex⟩ := ex; simp [Instr.sliceAt, Instr.slice, run_underlying hu, ex, Instr.sliceBounds, sizeA_run hs, add_none]
      · simp [Tr.run] at hr
  case extract x i =>
    (replace hr := opt_run hr); obtain ⟨p, hx, hr⟩ := hr
    have ex := ev_rel ht hx
    split at hr
    · rename_i vs
      (replace hr := opt_run hr); obtain ⟨r, hp2, hr⟩ := hr
      cases val_run hr
      simp only [ARel] at ex
      obtain ⟨cs', ex, hrel⟩ := ex
      obtain ⟨v, hv, hvr⟩ := LRel.get hrel hp2
      rw [Array.getElem?_toList] at hv
      exact ⟨rfl, v, by simp [Instr.extract, ex, hv], hvr⟩
    · simp [Tr.run] at hr
  case typeAssert x xt t ok =>
    (replace hr := opt_run hr); obtain ⟨p, hx, hr⟩ := hr
    have ex := ev_rel ht hx
    split at hr
    · simp [Tr.run] at hr
    · rename_i d u y hd hu
      simp only [ARel] at ex
      obtain ⟨y', ex, hrel⟩ := ex
      split at hr
      · rename_i htu
        subst htu
        cases val_run hr
        cases d <;> first | exact absurd rfl (hd _) | skip
        all_goals cases ok <;> first | exact ⟨rfl, y', by simp [Instr.typeAssert, run_underlying hu, ex], hrel⟩ | exact ⟨rfl, .tuple #[y', .bool true], by simp [Instr.typeAssert, run_underlying hu, ex], by simp only [ARel, LRel]; exact ⟨_, rfl, _, _, rfl, hrel, _, _, rfl, rfl, rfl⟩⟩
      · rename_i htu
        have htu' : ¬ u = t := fun e => htu e.symm
        split at hr
        · rename_i hok
          (replace hr := opt_run hr); obtain ⟨z, hz, hr⟩ := hr
          cases val_run hr
          obtain ⟨zv, hzv, hzr⟩ := zeroA_rel (w := w) (φ := φ) hz
          refine ⟨rfl, .tuple #[zv, .bool false], ?_, by simp only [ARel, LRel]; exact ⟨_, rfl, _, _, rfl, hzr, _, _, rfl, rfl, rfl⟩⟩
          cases d <;> first | exact absurd rfl (hd _) | (simp [Instr.typeAssert, run_underlying hu, ex, htu', hok, hzv]; done)
        · simp [Tr.run] at hr
    · rename_i d hd hu
      simp only [ARel] at ex
      split at hr
      · rename_i hok
        (replace hr := opt_run hr); obtain ⟨z, hz, hr⟩ := hr
        cases val_run hr
        obtain ⟨zv, hzv, hzr⟩ := zeroA_rel (w := w) (φ := φ) hz
        refine ⟨rfl, .tuple #[zv, .bool false], ?_, by simp only [ARel, LRel]; exact ⟨_, rfl, _, _, rfl, hzr, _, _, rfl, rfl, rfl⟩⟩
        cases d <;> first | exact absurd rfl (hd _) | (simp [Instr.typeAssert, run_underlying hu, ex, hok, hzv]; done)
      · simp [Tr.run] at hr
    · simp [Tr.run] at hr

theorem zeroA_fix {t : TypeId} {z : AV} (h : zeroA P t = some z) : ∃ v, (∀ w, (zeroValue t).run P w = .ok v w) ∧ ∀ φ, ARel φ z v := by
  unfold zeroA at h
  cases hi : P.info? t with
  | none => simp [hi] at h
  | some i =>
    simp only [hi] at h
    cases hz : i.zero with
    | none => simp [hz] at h
    | some v => simp only [hz] at h; exact ⟨v, fun w => by simp [zeroValue, run_info hi, hz], fun φ => ofConst_rel v z h⟩

theorem LRel.map_range {f : Nat → AV} {g : Nat → Value} (n : Nat) (h : ∀ i, ARel φ (f i) (g i)) : LRel φ ((List.range n).map f) ((List.range n).map g) := by
  generalize List.range n = l
  induction l with
  | nil => simp [LRel]
  | cons i l ih => simp only [List.map_cons, LRel]; exact ⟨_, _, rfl, h i, ih⟩

/-- What lays one new block. -/
theorem evOp_alloc {s : St} {o : Oper} {a : Act} {v : AV} {h' : AH} (hp : isAlloc o.op = true)
    (hr : (evOp P s o.op).run = some (v, h')) (ht : LRel φ s.tmps a.tmps.toList) :
    ∃ (cs : List AV) (cs' : Array Value) (t : TypeId) (mk : Nat → AV) (mk' : Nat → Value), h' = s.heap ++ [cs] ∧ LRel φ cs cs'.toList ∧ v = mk s.heap.length ∧ (∀ w, (execOp a.eval o).run P w = .ok (.value (mk' w.heap.size)) (w.alloc (.cells cs' t))) ∧
      (∀ (ψ : Ren) b c, ψ b = some c → ARel ψ (mk b) (mk' c)) := by
  unfold execOp
  cases ho : o.op <;> simp only [ho, isAlloc, Bool.false_eq_true] at hp <;> simp only [ho, evOp] at hr <;> simp only []
  case alloc t =>
    (replace hr := opt_run hr); obtain ⟨z, hz, hr⟩ := hr
    simp only [newBlock, Tr.run, Option.some.injEq, Prod.mk.injEq] at hr
    obtain ⟨rfl, rfl⟩ := hr
    obtain ⟨zv, hzv, hzr⟩ := zeroA_fix (P := P) hz
    refine ⟨z.cells, zv.cells, t, fun b => .ptr (some (b, 0)), fun c => .pointer (some ⟨c, 0, none⟩), rfl, cells_rel (hzr φ), rfl, fun w => ?_, fun ψ b c e => by simp only [ARel]; exact ⟨c, e, rfl⟩⟩
    simp [Instr.alloc, hzv, newVar, newRow]
  case box t x =>
    (replace hr := opt_run hr); obtain ⟨u, hu, hr⟩ := hr
    simp only [newBlock, Tr.run, Option.some.injEq, Prod.mk.injEq] at hr
    obtain ⟨rfl, rfl⟩ := hr
    refine ⟨u.cells, (a.eval x).cells, t, fun b => .ptr (some (b, 0)), fun c => .pointer (some ⟨c, 0, none⟩), rfl, cells_rel (ev_rel ht hu), rfl, fun w => ?_, fun ψ b c e => by simp only [ARel]; exact ⟨c, e, rfl⟩⟩
    simp [Instr.box, newVar, newRow]
  case buildSlice t len parts =>
    (replace hr := opt_run hr); obtain ⟨ps, hps, hr⟩ := hr
    cases hu : P.underlying t with
    | none => simp [hu, Tr.run] at hr
    | some d =>
      cases d <;> simp only [hu] at hr <;> first | (simp [Tr.run] at hr; done) | skip
      case slice elem =>
        (replace hr := opt_run hr); obtain ⟨size, hs, hr⟩ := hr
        (replace hr := opt_run hr); obtain ⟨z, hz, hr⟩ := hr
        split at hr
        · simp [Tr.run] at hr
        · rename_i hn
          (replace hr := opt_run hr); obtain ⟨cs, hcs, hr⟩ := hr
          simp only [Tr.run, Option.some.injEq, Prod.mk.injEq] at hr
          obtain ⟨rfl, rfl⟩ := hr
          obtain ⟨zv, hzv⟩ := zeroA_fix (P := P) hz
          have hzr : ARel φ z zv := hzv.2 φ
          have hlen := LRel.length (cells_rel hzr)
          simp only [Array.length_toList] at hlen
          have hn1 : ¬ len * size > 2 ^ 24 := fun e => hn (.inl e)
          have hn2 : ¬ len * size = 0 := fun e => hn (.inr (.inl e))
          have hn3 : zv.cells.size ≠ 0 := fun e => hn (.inr (.inr (by omega)))
          have hrow : LRel φ ((List.range (len * size)).map fun i => (z.cells[i % z.cells.length]?).getD .undef) ((Array.range (len * size)).map (zv.cells[· % zv.cells.size]!)).toList := by
            rw [Array.toList_map, Array.toList_range]
            refine LRel.map_range _ (fun i => ?_)
            have hlt : i % zv.cells.size < zv.cells.size := Nat.mod_lt _ (by omega)
            rw [hlen]
            have := LRel.getD (i % zv.cells.size) (cells_rel hzr)
            rw [getElem!_pos zv.cells _ hlt]
            simpa [List.getD_eq_getElem?_getD, Array.getD_eq_getD_getElem?, Array.getElem?_eq_getElem hlt] using this
          obtain ⟨cs', hf, hrel⟩ := fill_rel (evParts_rel ht hps) hrow hcs
          have hparts : (parts.map fun x => match x with | (i, x) => (i, a.eval x)).toList = parts.toList.map fun p => (p.1, a.eval p.2) := by simp
          refine ⟨cs, cs', elem, fun b => .slice (some (b, 0)) len len, fun c => .slice (some ⟨c, 0, none⟩) len len, rfl, hrel, rfl, fun w => ?_, fun ψ b c e => by simp only [ARel]; exact ⟨c, e, rfl⟩⟩
          rw [← hparts] at hf
          simp only [Instr.buildSlice, Sem.run_bind, run_underlying hu, Result.andThen_ok, sizeA_run hs]
          rw [if_neg hn1, if_neg hn2]
          simp only [Sem.run_bind, hzv.1, Sem.run_pure, Result.andThen_ok, hf, newRow, run_newObj, World.alloc]

theorem evOp_store {s : St} {o : Oper} {a : Act} {v : AV} {h' : AH} {t : TypeId} {x y : Operand} (ho : o.op = .store t x y) (hr : (evOp P s o.op).run = some (v, h')) (H : HRel B w0 φ s.heap w)
    (ht : LRel φ s.tmps a.tmps.toList) : v = .undef ∧ ∃ w', (execOp a.eval o).run P w = .ok .skip w' ∧ HRel B w0 φ h' w' := by
  unfold execOp
  simp only [ho, evOp] at hr
  simp only [ho]
  (replace hr := opt_run hr); obtain ⟨p, hx, hr⟩ := hr
  (replace hr := opt_run hr); obtain ⟨q, hy, hr⟩ := hr
  have ex := ev_rel ht hx
  have ey := ev_rel ht hy
  split at hr
  · rename_i b o
    split at hr
    · rename_i h2 hs
      cases val_run hr
      simp only [ARel] at ex
      obtain ⟨c, hc, ex⟩ := ex
      obtain ⟨w', hw, H'⟩ := store_rel (P := P) H hc ey hs
      exact ⟨rfl, w', by simp [Instr.storeAt, ex, Instr.sureAddr, hw], H'⟩
    · simp [Tr.run] at hr
  · simp [Tr.run] at hr

end
end Go.Sky
