/- The evaluator against the machine: regions, code, calls. -/
import Derived.Test.YtfbakgcemnkcpaaQSkyI
set_option linter.unusedSimpArgs false
set_option linter.unusedVariables false
namespace Go.Sky
open Go.RowKit (Below)

section
variable {P : Program} {B : Nat} {w0 : World} {call0 call : CallA} {ops : Array Oper} {m : Nat} {h0 : AH} {φ : Ren} {tr : Nat → St}

/-- Behind the floating ones: one after the other. -/
theorem tail_wp (hc : CallsOk P call) (F : Fok ops m) {Q : Exit → Act → World → Prop} : ∀ {l : List Oper} {k : Nat} {listed : Array Bool} {s s' : St} {a : Act} {φ : Ren} {w : World},
    Run (evOper P call) ops l s s' → (∀ j, l[j]? = ops[k + j]?) → m ≤ k → k + l.length = ops.size → listed.size = ops.size → (∀ i, i < ops.size → (listed.getD i false = true ↔ i < k)) →
    SRel B w0 φ s a w → (∀ φ' a' w', φ.le φ' → SRel B w0 φ' s' a' w' → Q .normal a' w') → wpAny P .any ops Q l.length listed a w
  | [], k, listed, s, s', a, φ, w, h, hl, hm, hk, hs, hlis, R, hq => by
    cases h
    simp only [List.length_nil, wpAny]
    refine ⟨?_, hq φ a w (Ren.le_refl _) R⟩
    cases hr : Region.ready .any ops listed with
    | nil => rfl
    | cons i r =>
      have : i ∈ Region.ready .any ops listed := by rw [hr]; simp
      obtain ⟨h1, o, ho, _⟩ := mem_ready.1 this
      have hi := (Array.getElem?_eq_some_iff.1 ho).1
      have h2 := (hlis i hi).2 (by simp at hk; omega)
      have hi2 : i < listed.size := by omega
      simp [hi2] at h1 h2
      rw [h2] at h1; cases h1
  | o :: l, k, listed, s, s', a, φ, w, h, hl, hm, hk, hs, hlis, R, hq => by
    cases h
    rename_i s1 h1 h2
    have ho : ops[k]? = some o := by simpa using (hl 0).symm
    have hks : k < ops.size := (Array.getElem?_eq_some_iff.1 ho).1
    simp only [List.length_cons] at hk ⊢
    simp only [wpAny]
    have hready : ∀ i, i ∈ Region.ready .any ops listed → i = k := by
      intro i hi
      obtain ⟨g1, o', ho', g2⟩ := mem_ready.1 hi
      have his := (Array.getElem?_eq_some_iff.1 ho').1
      have hnot : ¬ i < k := fun e => by
        have := (hlis i his).2 e
        have hi2 : i < listed.size := by omega
        simp [hi2] at g1 this
        rw [this] at g1; cases g1
      rcases Nat.lt_or_ge k i with hlt | hge
      · have hcl : Closed ops listed := by
          intro j oj hj hoj e he hb
          have hjs := (Array.getElem?_eq_some_iff.1 hoj).1
          have := F.back j oj hoj e he hb
          have hjk := (hlis j hjs).1 hj
          exact (hlis e.on (by omega)).2 (by omega)
        have := closed_mask F hcl i o' k ho' (fun e he hb => g2 e (by simpa using he) hb) (F.tail i k his (by omega) hlt)
        exact absurd ((hlis k hks).1 this) (by omega)
      · omega
    constructor
    · intro hnil
      exfalso
      have : k ∈ Region.ready .any ops listed := by
        rw [mem_ready]
        refine ⟨?_, o, ho, fun e he hb => ?_⟩
        · have hi2 : k < listed.size := by omega
          cases hv : listed.getD k true with
          | false => rfl
          | true =>
            have : listed.getD k false = true := by simpa [hi2] using hv
            exact absurd ((hlis k hks).1 this) (by omega)
        · have := F.back k o ho e (by simpa using he) hb
          exact (hlis e.on (by omega)).2 (by omega)
      rw [hnil] at this; cases this
    · intro i hi
      rw [hready i hi]
      unfold wpOp
      simp only [ho]
      exact step_wp hc h1 R fun φ' a' w' hle R' => tail_wp (k := k + 1) hc F h2 (fun j => by have := hl (j + 1); simpa [Nat.add_assoc, Nat.add_comm 1 j] using this) (by omega) (by omega) (by simpa using hs)
        (fun i' hi' => by
          by_cases e : k = i'
          · subst e; simp [hs, hks]
          · rw [getD_set_ne false e, hlis i' hi']; omega) R'
        (fun φ'' a'' w'' hle' R'' => hq φ'' a'' w'' (Ren.le_trans hle hle') R'')

theorem heaps_end (T : Trace P call0 ops m h0 tr) (F : Fok ops m) : ∀ k, k ≤ m → ∀ b cs, (tr k).heap[b]? = some cs → h0[b]? = some cs ∨ ∃ i, i < k ∧ (tr i).heap.length = b ∧ (tr (i + 1)).heap = (tr i).heap ++ [cs] := by
  intro k
  induction k with
  | zero => intro _ b cs h; rw [T.start] at h; exact .inl h
  | succ k ih =>
    intro hk b cs h
    rcases T.heap F (i := k) (by omega) with h1 | ⟨ds, h1⟩
    · rw [h1] at h
      rcases ih (by omega) b cs h with h2 | ⟨i, h2, h3, h4⟩
      · exact .inl h2
      · exact .inr ⟨i, by omega, h3, h4⟩
    · rw [h1] at h
      by_cases hb : b < (tr k).heap.length
      · rw [List.getElem?_append_left hb] at h
        rcases ih (by omega) b cs h with h2 | ⟨i, h2, h3, h4⟩
        · exact .inl h2
        · exact .inr ⟨i, by omega, h3, h4⟩
      · have hb2 : b = (tr k).heap.length := by
          rcases Nat.lt_or_ge b ((tr k).heap ++ [ds]).length with hh | hh
          · simp at hh; omega
          · rw [List.getElem?_eq_none hh] at h; cases h
        subst hb2
        simp at h; subst h
        exact .inr ⟨k, by omega, rfl, h1⟩

/-- All that float have come up: memory and slots are the text's. -/
theorem InvAt.done (T : Trace P call0 ops m h0 tr) (F : Fok ops m) {listed : Array Bool} {a : Act} {w : World} {ψ : Ren} (I : InvAt B w0 φ h0 ops m tr listed a w ψ)
    (hall : ∀ i, i < m → listed.getD i false = true) : SRel B w0 ψ (tr m) a w := by
  refine ⟨⟨?_, I.inj, ?_, fun b c e => (I.rng b c e).1, I.heap.below, I.heap.base⟩, ?_, I.defers⟩
  · intro b cs h
    rcases heaps_end T F m (Nat.le_refl _) b cs h with h1 | ⟨i, h1, h2, h3⟩
    · obtain ⟨c, cs', e, g1, g2, g3⟩ := I.heap.cells b cs h1
      exact ⟨c, cs', e, I.le _ _ g1, g2, LRel.mono I.le _ _ g3⟩
    · obtain ⟨c, cs', e, g1, g2, g3⟩ := I.laid i cs (hall i h1) h3
      rw [h2] at g1
      exact ⟨c, cs', e, g1, g2, g3⟩
  · intro b c e
    rcases I.dom b c e with h1 | ⟨i, h1, h2, h3⟩
    · have := T.base F (i := m) (Nat.le_refl _); omega
    · have hi := I.only i h1
      have := T.mono F (i := i + 1) (m - (i + 1)) (by omega)
      rw [show i + 1 + (m - (i + 1)) = m by omega] at this
      omega
  · have hlen := T.len F (i := m) (Nat.le_refl _)
    have hl := I.len
    have key : ∀ t : Tmp, ARel ψ ((tr m).tmps.getD t .undef) (a.tmps.getD t Go.undef) := by
      intro t
      by_cases hw : ∃ j oj, j < m ∧ ops[j]? = some oj ∧ oj.dst = some t
      · obtain ⟨j, oj, hj, hoj, hd⟩ := hw
        exact I.new j oj t (hall j hj) hoj hd
      · have hkeep := T.keeps F (t := t) (i := 0) m (by omega) (fun k ok h1 h2 h3 e => hw ⟨k, ok, by omega, h3, e⟩)
        rw [Nat.zero_add] at hkeep
        rw [hkeep]
        exact I.old t fun j oj hj hoj e => hw ⟨j, oj, I.only j hj, hoj, e⟩
    have hsize : (tr m).tmps.length = a.tmps.toList.length := by simp; omega
    clear hlen hl
    generalize (tr m).tmps = l at key hsize
    have key2 : ∀ t : Nat, ARel ψ (l.getD t .undef) (a.tmps.toList.getD t Go.undef) := by
      intro t
      have := key t
      rw [Array.getD_eq_getD_getElem?] at this
      rw [List.getD_eq_getElem?_getD (l := a.tmps.toList), Array.getElem?_toList]
      exact this
    generalize a.tmps.toList = l' at key2 hsize
    clear key
    induction l generalizing l' with
    | nil => cases l' with
      | nil => simp [LRel]
      | cons _ _ => simp at hsize
    | cons x xs ih => cases l' with
      | nil => simp at hsize
      | cons y ys =>
        simp only [LRel]
        exact ⟨y, ys, rfl, by simpa using key2 0, ih ys (fun t => by simpa using key2 (t + 1)) (by simpa using hsize)⟩

theorem count_set {listed : Array Bool} {i : Nat} (hi : i < listed.size) (h : listed.getD i true = false) : (listed.setIfInBounds i true).toList.count false + 1 = listed.toList.count false := by
  rw [Array.toList_setIfInBounds]
  have h2 : listed.toList[i]? = some false := by
    rw [Array.getElem?_toList]; simp [hi] at h ⊢; exact h
  generalize listed.toList = l at h2
  clear h hi
  induction l generalizing i with
  | nil => simp at h2
  | cons x xs ih =>
    cases i with
    | zero => simp at h2; subst h2; simp
    | succ i => simp at h2; simp only [List.set_cons_succ, List.count_cons]; have := ih h2; omega

theorem count_first {n k : Nat} : ∀ {l : List Bool}, l.length = n → (∀ i, i < n → (l[i]? = some true ↔ i < k)) → k ≤ n → l.count false = n - k := by
  intro l
  induction l generalizing n k with
  | nil => intro h _ hk; simp at h; subst h; simp
  | cons x xs ih =>
    intro h hi hk
    simp at h
    cases n with
    | zero => omega
    | succ n =>
      have h0 := hi 0 (by omega)
      simp at h0
      cases k with
      | zero =>
        have hx : x = false := by cases x <;> simp_all
        subst hx
        have := ih (n := n) (k := 0) (by omega) (fun i hn => by have := hi (i + 1) (by omega); simpa using this) (by omega)
        simp [this]
      | succ k =>
        have hx : x = true := by simp at h0; exact h0
        subst hx
        have := ih (n := n) (k := k) (by omega) (fun i hn => by have := hi (i + 1) (by omega); simpa using this) (by omega)
        simp [this]

theorem floats_wp (T : Trace P call0 ops m h0 tr) (F : Fok ops m) (hc0 : CallsPure P call0) (hc : CallsOk P call) {Q : Exit → Act → World → Prop} {s' : St}
    (hrun : Run (evOper P call) ops (ops.toList.drop m) (tr m) s') (hq : ∀ φ' a' w', φ.le φ' → SRel B w0 φ' s' a' w' → Q .normal a' w') :
    ∀ (fuel : Nat) (listed : Array Bool) (a : Act) (w : World) (ψ : Ren), listed.toList.count false = fuel → InvAt B w0 φ h0 ops m tr listed a w ψ → wpAny P .any ops Q fuel listed a w := by
  intro fuel
  induction fuel with
  | zero =>
    intro listed a w ψ hf I
    have hall : ∀ i, i < ops.size → listed.getD i false = true := by
      intro i hi
      have hi2 : i < listed.size := by rw [I.size]; exact hi
      cases hv : listed[i] with
      | true => simp [hi2, hv]
      | false =>
        exfalso
        have : false ∈ listed.toList := by rw [← hv]; exact Array.getElem_mem_toList hi2
        have := List.count_pos_iff.2 this
        omega
    have hm : m = ops.size := by
      have := F.le
      rcases Nat.lt_or_ge m ops.size with h | h
      · have := I.only m (hall m h); omega
      · omega
    have R := I.done T F (fun i hi => hall i (by omega))
    have hd : ops.toList.drop m = [] := by rw [hm]; simp
    rw [hd] at hrun
    have := tail_wp (k := m) (listed := listed) hc F hrun (fun j => by simp; omega) (Nat.le_refl _) (by simp; omega) I.size (fun i hi => by simp [hall i hi]; omega) R
      (fun φ' a' w' hle R' => hq φ' a' w' (Ren.le_trans I.le hle) R')
    simpa using this
  | succ fuel ih =>
    intro listed a w ψ hf I
    by_cases hall : ∀ i, i < m → listed.getD i false = true
    · have R := I.done T F hall
      have hlis : ∀ i, i < ops.size → (listed.getD i false = true ↔ i < m) := fun i hi => ⟨fun h => I.only i h, hall i⟩
      have hcount : listed.toList.count false = ops.size - m := by
        refine count_first (by simpa using I.size) (fun i hi => ?_) F.le
        rw [← hlis i hi, Array.getElem?_toList]
        have hi2 : i < listed.size := by rw [I.size]; exact hi
        simp [hi2]
      have := tail_wp (k := m) (listed := listed) hc F hrun (fun j => by simp) (Nat.le_refl _) (by simp; have := F.le; omega) I.size hlis R
        (fun φ' a' w' hle R' => hq φ' a' w' (Ren.le_trans I.le hle) R')
      rw [List.length_drop, Array.length_toList, ← hcount, hf] at this
      exact this
    · simp only [wpAny]
      constructor
      · intro hnil
        exfalso
        apply hall
        intro i
        induction i using Nat.strongRecOn with
        | _ i ihi =>
          intro him
          have his : i < ops.size := Nat.lt_of_lt_of_le him F.le
          have hi2 : i < listed.size := by rw [I.size]; exact his
          cases hv : listed.getD i false with
          | true => rfl
          | false =>
            have : i ∈ Region.ready .any ops listed := by
              rw [mem_ready]
              refine ⟨by simpa [hi2] using hv, ops[i], Array.getElem?_eq_getElem his, fun e he hb => ?_⟩
              have hlt := F.back i _ (Array.getElem?_eq_getElem his) e (by simpa using he) hb
              exact ihi e.on hlt (by omega)
            rw [hnil] at this; cases this
      · intro i hi
        obtain ⟨g1, o, ho, g2⟩ := mem_ready.1 hi
        have his := (Array.getElem?_eq_some_iff.1 ho).1
        have hi2 : i < listed.size := by rw [I.size]; exact his
        have him : i < m := by
          rcases Nat.lt_or_ge i m with h | h
          · exact h
          · exfalso
            apply hall
            intro j hj
            exact closed_mask F I.closed i o j ho (fun e he hb => g2 e (by simpa using he) hb) (F.tail i j his h (by omega))
        refine I.step T F hc0 him ho (by simpa [hi2] using g1) (fun e he hb => g2 e (by simpa using he) hb) fun a' w' ψ' I' => ih _ a' w' ψ' ?_ I'
        have := count_set hi2 g1
        omega

end

theorem run_append {exec : St → Oper → Ans} {ops : Array Oper} {l : List Oper} {s s' : St} (h : Run exec ops l s s') : True := trivial

/-- A region that draws. -/
theorem region_draw_wp {P : Program} {B : Nat} {w0 : World} {call0 call : CallA} (hm : P.follows .mixedOrders = true) (hc0 : CallsPure P call0) (hc : CallsOk P call) {ops : Array Oper} {m id : Nat} (F : Fok ops m)
    {s s1 s' : St} {φ : Ren} {a : Act} {w : World} {Q : Exit → Act → World → Prop} (h1 : Run (execF P call0 s.heap) ops (ops.toList.take m) s s1) (h2 : Run (evOper P call) ops (ops.toList.drop m) s1 s')
    (R : SRel B w0 φ s a w) (hq : ∀ φ' a' w', φ.le φ' → SRel B w0 φ' s' a' w' → Q .normal a' w') : (Code.region id ops true).wp P Q a w := by
  refine wp_region_any hm ?_
  obtain ⟨tr, g1, g2, g3⟩ := run_trace h1
  have hl : (ops.toList.take m).length = m := by simp [Nat.min_eq_left F.le]
  rw [hl] at g2
  have T : Trace P call0 ops m s.heap tr := ⟨by rw [g1], fun i o hi ho => g3 i o (by rw [List.getElem?_take, if_pos hi]; simpa using ho)⟩
  have hnone : ∀ i, (Array.replicate ops.size false).getD i false = false := by
    intro i
    by_cases hi : i < ops.size <;> simp [hi]
  have hno : ∀ (i : Nat), ¬ (Array.replicate ops.size false).getD i false = true := by intro i e; rw [hnone i] at e; cases e
  refine floats_wp (B := B) (w0 := w0) (φ := φ) (s' := s') T F hc0 hc (by rw [g2]; exact h2) hq ops.size _ a _ φ (by simp) ?_
  refine ⟨by simp, fun i o hi => absurd hi (hno i), fun i hi => absurd hi (hno i), Ren.le_refl _, R.heap.drew, R.heap.inj, fun b c e => ⟨R.heap.rng b c e, R.heap.lt e⟩, fun b c e => .inl (R.heap.dom b c e),
    fun i cs hi => absurd hi (hno i), fun t _ => ?_, fun i o t hi => absurd hi (hno i), ?_, R.defers⟩
  · rw [g1]; exact LRel.getD t R.tmps
  · rw [g1]; have := LRel.length R.tmps; simpa using this.symm

end Go.Sky
