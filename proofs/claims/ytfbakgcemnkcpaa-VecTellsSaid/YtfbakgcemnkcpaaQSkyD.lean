/- The evaluator's operations against the machine's: memory, and each operation. -/
import Derived.Test.YtfbakgcemnkcpaaQSkyC
namespace Go.Sky
open Go.RowKit (Below)

section
variable {P : Program} {w : World} {B : Nat} {w0 : World} {φ : Ren} {h : AH}

theorem add_none (c o i : Nat) : (⟨c, o, none⟩ : Addr).add i = ⟨c, o + i, none⟩ := by
  unfold Addr.add; split <;> simp_all

/-- Memory that is read. -/
def HC (φ : Ren) (h : AH) (w : World) : Prop := ∀ b cs, h[b]? = some cs → ∃ c cs' e, φ b = some c ∧ w.heap[c]? = some (.cells cs' e (0, 0)) ∧ LRel φ cs cs'.toList

theorem load_rel (H : HC φ h w) {t : TypeId} {b o c : Nat} {r : AV} (hc : φ b = some c) (hl : loadA P t b o h = some r) :
    ∃ v, (loadVar t ⟨c, o, none⟩).run P w = .ok v w ∧ ARel φ r v := by
  unfold loadA at hl
  cases hb : h[b]? with
  | none => simp [hb] at hl
  | some cs =>
    obtain ⟨c', cs', e, h1, h2, h3⟩ := H b cs hb
    rw [hc] at h1; cases h1
    have hlen := LRel.length h3
    simp only [Array.length_toList] at hlen
    cases ha : isAggA P t with
    | none => simp [hb, ha] at hl
    | some g =>
      cases g with
      | false =>
        simp only [hb, ha] at hl
        obtain ⟨v, hv, hr⟩ := LRel.get h3 hl
        rw [Array.getElem?_toList] at hv
        refine ⟨v, ?_, hr⟩
        have hcell : w.cell? ⟨c, o, none⟩ = some v := by rw [cell_of_row w c o cs' e _ h2]; exact hv
        simp [loadVar, isAggA_run ha, hcell]
      | true =>
        cases hs : sizeA P t with
        | none => simp [hb, ha, hs] at hl
        | some n =>
          simp only [hb, ha, hs] at hl
          split at hl
          · rename_i hn
            cases hl
            have hl2 : (loadCells ⟨c, o, none⟩ n).run P w = .ok ((cs'.toList.drop o).take n).toArray w := by
              have hlen2 : ((cs'.toList.drop o).take n).length = n := by simp; omega
              have := run_loadCells_list (P := P) w ⟨c, o, none⟩ ((cs'.toList.drop o).take n) (fun j v hv => by
                rw [add_none, cell_of_row w c (o + j) cs' e _ h2]
                rw [List.getElem?_take] at hv
                split at hv
                · rw [List.getElem?_drop, Array.getElem?_toList] at hv; exact hv
                · cases hv)
              rwa [hlen2] at this
            refine ⟨.agg ((cs'.toList.drop o).take n).toArray, by simp [loadVar, isAggA_run ha, sizeA_run hs, hl2], ?_⟩
            simp only [ARel]
            refine ⟨_, rfl, ?_⟩
            rw [List.drop_take]
            have : o + n - o = n := by omega
            rw [this]
            simpa using LRel.take n (LRel.drop o h3)
          · cases hl

theorem storeCells_rel {b c : Nat} (o : Nat) : ∀ {vs : List AV} {us : List Value} {cs : List AV} {h : AH} {w : World} {i : Nat}, HRel B w0 φ h w → φ b = some c → h[b]? = some cs →
    LRel φ vs us → o + i + vs.length ≤ cs.length → (vs.all (fun c => match c with | .agg _ => false | .tuple _ => false | _ => true)) = true →
    ∃ w', (storeCells ⟨c, o, none⟩ us i).run P w = .ok () w' ∧ HRel B w0 φ (h.set b (fillA.setFrom cs (o + i) vs)) w'
  | [], us, cs, h, w, i, H, hc, hb, hv, _, _ => by
    simp only [LRel] at hv; subst hv
    refine ⟨w, rfl, ?_⟩
    simp only [fillA.setFrom]
    have : h.set b cs = h := by
      obtain ⟨hlt, rfl⟩ := List.getElem?_eq_some_iff.1 hb
      exact List.set_getElem_self hlt
    rw [this]; exact H
  | x :: xs, us, cs, h, w, i, H, hc, hb, hv, hl, hok => by
    simp only [LRel] at hv
    obtain ⟨u, us, rfl, h1, h2⟩ := hv
    simp only [List.all_cons, Bool.and_eq_true] at hok
    obtain ⟨hok1, hok2⟩ := hok
    obtain ⟨c2, cs', e, g1, g2, g3⟩ := H.cells b cs hb
    rw [hc] at g1; cases g1
    have hlen := LRel.length g3
    simp only [Array.length_toList] at hlen
    simp only [List.length_cons] at hl
    have hone : u.oneCell' = true := by
      cases x <;> simp at hok1 <;> (try (simp only [ARel] at h1; subst h1; rfl))
      case int k l n => simp only [ARel] at h1; obtain ⟨rfl, _⟩ := h1; rfl
      case ptr p => cases p with
        | none => simp only [ARel] at h1; subst h1; rfl
        | some p => obtain ⟨_, _⟩ := p; simp only [ARel] at h1; obtain ⟨_, _, rfl⟩ := h1; rfl
      case slice p n k => cases p with
        | none => simp only [ARel] at h1; subst h1; rfl
        | some p => obtain ⟨_, _⟩ := p; simp only [ARel] at h1; obtain ⟨_, _, rfl⟩ := h1; rfl
      case func fn f k => simp only [ARel] at h1; obtain ⟨_, _, rfl, _⟩ := h1; rfl
      case iface t x => simp only [ARel] at h1; obtain ⟨_, rfl, _⟩ := h1; rfl
    have hcell : (w.cell? ⟨c, o + i, none⟩).isSome := by rw [cell_of_row w c _ cs' e _ g2]; simp; omega
    obtain ⟨old, hold⟩ := Option.isSome_iff_exists.1 hcell
    have hfro : w.frozen? ⟨c, o + i, none⟩ = false := frozen_of_row w c _ cs' e g2
    have hst : (store ((⟨c, o, none⟩ : Addr).add i) u).run P w = .ok () (w.setCell ⟨c, o + i, none⟩ u) := by
      rw [add_none, run_store P w _ u _ hone, hold]; simp [hfro]
    have H2 := H.setCell (o := o + i) hb hc h1
    obtain ⟨w', hr, H'⟩ := storeCells_rel o (i := i + 1) (cs := cs.set (o + i) x) H2 hc (by rw [List.getElem?_set_self (H.dom _ _ hc)]) h2 (by simp; omega) hok2
    refine ⟨w', ?_, ?_⟩
    · simp only [storeCells, Sem.run_bind, hst, Result.andThen_ok]; exact hr
    · simp only [fillA.setFrom]
      rw [List.set_set] at H'
      exact H'

theorem store_rel (H : HRel B w0 φ h w) {t : TypeId} {b o c : Nat} {v : AV} {u : Value} {h' : AH} (hc : φ b = some c) (hv : ARel φ v u) (hs : storeA P t b o v h = some h') :
    ∃ w', (storeVar t ⟨c, o, none⟩ u).run P w = .ok () w' ∧ HRel B w0 φ h' w' := by
  unfold storeA at hs
  cases hb : h[b]? with
  | none => simp [hb] at hs
  | some cs =>
    cases hz : sizeA P t with
    | none => simp [hb, hz] at hs
    | some n =>
      simp only [hb, hz] at hs
      split at hs
      · rename_i hn
        obtain ⟨hn1, hn2, hn3⟩ := hn
        cases hs
        have hlen := LRel.length (cells_rel hv)
        simp only [Array.length_toList] at hlen
        obtain ⟨w', hr, H'⟩ := storeCells_rel (P := P) o (i := 0) H hc hb (cells_rel hv) (by omega) hn3
        refine ⟨w', ?_, by simpa using H'⟩
        simp only [storeVar, Sem.run_bind, sizeA_run hz, Result.andThen_ok]
        rw [if_neg (by omega)]
        simpa using hr
      · cases hs

end

/-! ### '==' -/
section
variable {P : Program} {φ : Ren}

theorem fieldsOf_eq {t : TypeId} {fs : Array Field} (h : P.underlying t = some (.struct fs)) : P.fieldsOf t = fs := by
  unfold Program.fieldsOf; rw [h]

theorem eqA_rel : ∀ (d : Nat) (t : TypeId) (x y : AV) (v u : Value) (l r : Bool) (w : World), eqA P d t x y = some (l, r) → ARel φ x v → ARel φ y u →
    (Op.equalIn d t v u).run P w = .ok r w := by
  intro d
  induction d with
  | zero => intro t x y v u l r w h; simp [eqA] at h
  | succ d ih =>
    intro t x y v u l r w h hx hy
    rw [eqA.eq_def] at h
    simp only at h
    split at h
    · rename_i l1 a l2 b hu
      cases h
      simp only [ARel] at hx hy; subst hx; subst hy
      exact run_equalIn_bool' w d t a b hu
    · rename_i k' k l1 a k2 l2 b hu
      split at h
      · rename_i hk
        cases h
        subst hk
        simp only [ARel] at hx hy; obtain ⟨rfl, _⟩ := hx; obtain ⟨rfl, _⟩ := hy
        exact run_equalIn_int w d t k k' a b hu
      · cases h
    · rename_i l1 a l2 b hu
      cases h
      simp only [ARel] at hx hy; subst hx; subst hy
      exact run_equalIn_string w d t a b hu
    · rename_i e b hu
      cases h
      simp only [ARel] at hx; subst hx
      cases b with
      | none => simp only [ARel] at hy; subst hy; simp [Op.equalIn, run_underlying hu]
      | some p => obtain ⟨b, o⟩ := p; simp only [ARel] at hy; obtain ⟨c, _, rfl⟩ := hy; simp [Op.equalIn, run_underlying hu]
    · rename_i e b hb hu
      cases h
      simp only [ARel] at hy; subst hy
      cases b with
      | none => exact absurd rfl hb
      | some p => obtain ⟨b, o⟩ := p; simp only [ARel] at hx; obtain ⟨c, _, rfl⟩ := hx; simp [Op.equalIn, run_underlying hu]
    · rename_i p1 p2 p3 hu
      cases h
      simp only [ARel] at hx hy; subst hx; subst hy
      simp [Op.equalIn, run_underlying hu]
    · rename_i p1 p2 p3 fn f c hu
      cases h
      simp only [ARel] at hx hy; subst hx; obtain ⟨_, _, rfl, _⟩ := hy
      simp [Op.equalIn, run_underlying hu]
    · rename_i p1 p2 p3 fn f c hu
      cases h
      simp only [ARel] at hx hy; subst hy; obtain ⟨_, _, rfl, _⟩ := hx
      simp [Op.equalIn, run_underlying hu]
    · rename_i e n1 k1 b n2 k2 hu
      cases h
      simp only [ARel] at hx; subst hx
      cases b with
      | none => simp only [ARel] at hy; subst hy; simp [Op.equalIn, run_underlying hu]
      | some p => obtain ⟨b, o⟩ := p; simp only [ARel] at hy; obtain ⟨c, _, rfl⟩ := hy; simp [Op.equalIn, run_underlying hu]
    · rename_i e b n1 k1 n2 k2 hb hu
      cases h
      simp only [ARel] at hy; subst hy
      cases b with
      | none => exact (hb rfl).elim
      | some p => obtain ⟨b, o⟩ := p; simp only [ARel] at hx; obtain ⟨c, _, rfl⟩ := hx; simp [Op.equalIn, run_underlying hu]
    · rename_i fields xs ys hu
      split at h
      · cases h
      · rename_i hst
        simp only [ARel] at hx hy
        obtain ⟨xs', rfl, hx⟩ := hx
        obtain ⟨ys', rfl, hy⟩ := hy
        have hfo := fieldsOf_eq hu
        rw [run_equalIn_struct w d t xs' ys' (by rw [hfo]; exact hu) (by simpa using hst), hfo]
        generalize fields.toList = fs at h
        clear hu hfo hst
        induction fs generalizing l r with
        | nil => simp only [List.foldr_nil, Option.some.injEq, Prod.mk.injEq] at h; rw [← h.2]; simp [Op.eqFields]
        | cons f fs ihf =>
          simp only [List.foldr_cons] at h
          simp only [Op.eqFields]
          by_cases hn : f.name = "_"
          · rw [if_pos hn] at h
            simp only [hn, ne_eq, not_true_eq_false, if_false]
            exact ihf _ _ h
          · rw [if_neg hn] at h
            simp only [ne_eq, hn, not_false_eq_true, if_true]
            split at h
            · rename_i pa pb l2 r2 ha hb hacc
              split at h
              · rename_i m c hm
                simp only [Option.some.injEq, Prod.mk.injEq] at h
                obtain ⟨_, rfl⟩ := h
                obtain ⟨va, hva, hra⟩ := part_rel (w := w) hx ha
                obtain ⟨vb, hvb, hrb⟩ := part_rel (w := w) hy hb
                have he := ih f.type pa pb va vb m c w hm hra hrb
                have hrest := ihf _ _ hacc
                simp only [Sem.run_bind, hva, hvb, he, Result.andThen_ok]
                cases c
                · simp
                · simpa using hrest
              · cases h
            · cases h
    · cases h

end
end Go.Sky
