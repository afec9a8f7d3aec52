/- Matter: what is thrown anywhere on a side. -/
import Derived.Test.YtpljpbmkklcbkaaGreatQdb37ecbc
set_option linter.unusedSimpArgs false
set_option linter.unusedVariables false
namespace Go.Sky

/-! ### angles -/

theorem bow_ge {a : Int} (h : 0 ≤ a ∧ a ≤ 16384) : a ≤ bowN a := by
  have b := bowA_r (a := a) (by omega)
  unfold bowN
  refine Int.le_ediv_of_mul_le (by omega) ?_
  have h1 : 0 ≤ a * ((16384 - a) * (49152 + a)) := Int.mul_nonneg h.1 (Int.mul_nonneg (by omega) (by omega))
  have e : 262144 * (a * (32768 - a)) - a * (5368709120 - 4 * (a * (32768 - a))) = 4 * (a * ((16384 - a) * (49152 + a))) := by clear b; grind
  omega

theorem bow_sym (a : Int) : bowN (32768 - a) = bowN a := by
  unfold bowN
  rw [show 32768 - (32768 - a) = a by omega, Int.mul_comm (32768 - a) a]

theorem bow_ge2 {a : Int} (h : 16384 ≤ a ∧ a < 32768) : 32768 - a ≤ bowN a := by
  rw [← bow_sym]; exact bow_ge (by omega)

theorem sin_cos (a : Int) : 16384 ≤ sz (sinT a) + sz (cosT a) := by
  unfold cosT sinT
  have hr : 0 ≤ a % 65536 ∧ a % 65536 < 65536 := by omega
  generalize a % 65536 = r at *
  rcases (show r < 16384 ∨ 16384 ≤ r ∧ r < 32768 ∨ 32768 ≤ r ∧ r < 49152 ∨ 49152 ≤ r by omega) with h | h | h | h
  · rw [if_pos (by omega), if_pos (by omega), show (r + 16384) % 65536 = r + 16384 by omega]
    have h1 := bow_ge (a := r) (by omega)
    have h2 := bow_ge2 (a := r + 16384) (by omega)
    unfold sz; omega
  · rw [if_pos (by omega), if_neg (by omega), show (r + 16384) % 65536 - 32768 = r - 16384 by omega]
    have h1 := bow_ge2 (a := r) (by omega)
    have h2 := bow_ge (a := r - 16384) (by omega)
    unfold sz; omega
  · rw [if_neg (by omega), if_neg (by omega), show (r + 16384) % 65536 - 32768 = r - 16384 by omega]
    have h1 := bow_ge (a := r - 32768) (by omega)
    have h2 := bow_ge2 (a := r - 16384) (by omega)
    unfold sz; omega
  · rw [if_neg (by omega), if_pos (by omega), show (r + 16384) % 65536 = r - 49152 by omega]
    have h1 := bow_ge2 (a := r - 32768) (by omega)
    have h2 := bow_ge (a := r - 49152) (by omega)
    unfold sz; omega

theorem half_len (u a : Int) : 134150000 ≤ ringC (cosT a) (discR u) * ringC (cosT a) (discR u) + ringC (sinT a) (discR u) * ringC (sinT a) (discR u) + halfZ u * halfZ u := by
  have sc := sin_cos a
  have r := discR_r u; have z := halfZ_r u
  have cr := cosT_r a; have sr := sinT_r a
  have hd : discR u = isq (u % 65536 * 4096) := rfl
  have hz : halfZ u = isq (268435456 - u % 65536 * 4096) := rfl
  have hm : 0 ≤ u % 65536 ∧ u % 65536 < 65536 := by omega
  generalize u % 65536 = m at *
  obtain ⟨_, _, _, d3⟩ := isq_spec (n := m * 4096) (by omega) (by omega)
  obtain ⟨_, _, _, z3⟩ := isq_spec (n := 268435456 - m * 4096) (by omega) (by omega)
  rw [← hd] at d3; rw [← hz] at z3
  unfold ringC
  rw [if_pos r, if_pos r]
  generalize discR u = k at *
  generalize halfZ u = q at *
  have low : ∀ c : Int, sz c * k ≤ 16384 * sz (c * k / 16384) + 16384 := by
    intro c
    have e : sz c * k = sz (c * k) := by
      unfold sz
      rcases (show c < 0 ∨ 0 ≤ c by omega) with h | h
      · have : c * k ≤ 0 := Int.mul_nonpos_of_nonpos_of_nonneg (by omega) r.1
        rw [if_pos h]
        split
        · rw [Int.neg_mul]
        · rw [Int.neg_mul]; omega
      · have : 0 ≤ c * k := Int.mul_nonneg h r.1
        rw [if_neg (by omega), if_neg (by omega)]
    rw [e]; unfold sz; omega
  have l1 := low (cosT a); have l2 := low (sinT a)
  have e1 : (sz (sinT a) + sz (cosT a)) * k = sz (sinT a) * k + sz (cosT a) * k := Int.add_mul _ _ _
  have e2 : 16384 * k ≤ (sz (sinT a) + sz (cosT a)) * k := Int.mul_le_mul_of_nonneg_right sc r.1
  have q1 := sz_sq (cosT a * k / 16384); have q2 := sz_sq (sinT a * k / 16384)
  rw [← q1, ← q2]
  have n1 := sz_nn (cosT a * k / 16384); have n2 := sz_nn (sinT a * k / 16384)
  generalize sz (cosT a * k / 16384) = x at *
  generalize sz (sinT a * k / 16384) = y at *
  have hs : k - 2 ≤ x + y := by omega
  have e3 : (x + y) * (x + y) + (x - y) * (x - y) = 2 * (x * x + y * y) := by clear q1 q2 d3 z3; grind
  have e4 := sq_nonneg (x - y)
  have e5 : k * k - 4 * k ≤ (x + y) * (x + y) := by
    rcases (show k < 2 ∨ 2 ≤ k by omega) with h | h
    · have := sq_nonneg (x + y)
      have : k * k ≤ 2 * k := Int.mul_le_mul_of_nonneg_right (by omega) r.1
      omega
    · have := mul_mono (a := k - 2) (b := x + y) (c := k - 2) (d := x + y) (by omega) hs (by omega) hs
      have e6 : (k - 2) * (k - 2) = k * k - 4 * k + 4 := by clear q1 q2 d3 z3 e3 this; grind
      omega
  have e7 : (k + 1) * (k + 1) = k * k + 2 * k + 1 := by clear q1 q2 d3 z3 e3 e5; grind
  have e8 : (q + 1) * (q + 1) = q * q + 2 * q + 1 := by clear q1 q2 d3 z3 e3 e5; grind
  have e9 := sq_nonneg q
  omega

/-! ### bases -/

def Dir (v : V3) : Prop := 268369924 ≤ v.x * v.x + v.y * v.y + v.z * v.z ∧ v.x * v.x + v.y * v.y + v.z * v.z < 268468225
def dt (a b : V3) : Int := a.x * b.x + a.y * b.y + a.z * b.z

theorem dir_unit {v : V3} (h : ok3 v = true) : Dir (unit3 v) := ⟨(unitC_r h).1, unitC_lt h⟩
theorem dir_near {v : V3} (h : Dir v) : near3 v = true := by have := coord_r h.2; exact decide_eq_true (by omega)

theorem cross_eq {a b : V3} (ha : near3 a = true) (hb : near3 b = true) : cross3 a b = ⟨a.y * b.z - a.z * b.y, a.z * b.x - a.x * b.z, a.x * b.y - a.y * b.x⟩ := by
  unfold cross3
  have ha : nearB a.x a.y a.z = true := ha
  have hb : nearB b.x b.y b.z = true := hb
  have a1 : nearB a.y a.z a.x = true := by rw [← near_rot2]; exact ha
  have b1 : nearB b.y b.z b.x = true := by rw [← near_rot2]; exact hb
  have a2 : nearB a.z a.x a.y = true := by rw [← near_rot2]; exact a1
  have b2 : nearB b.z b.x b.y = true := by rw [← near_rot2]; exact b1
  rw [crN_eq (by simpa using ha) (by simpa using hb), crN_eq (by simpa using a1) (by simpa using b1), crN_eq (by simpa using a2) (by simpa using b2)]

theorem orth_of {c n : V3} (hok : ok3 c = true) (hn : Dir n) (h : dt c n = 0) : -29266 ≤ dt (unit3 c) n ∧ dt (unit3 c) n ≤ 29266 := by
  have s1 := one_norm hn.2
  have neg : ∀ q, sz (-q) = sz q := fun q => by unfold sz; omega
  have h1 := unit_orth (S := 28379) hok s1 h
  have h2 := unit_orth (fx := -n.x) (fy := -n.y) (fz := -n.z) (S := 28379) hok (by rw [neg, neg, neg]; exact s1) (by rw [Int.mul_neg, Int.mul_neg, Int.mul_neg]; unfold dt at h; omega)
  rw [Int.mul_neg, Int.mul_neg, Int.mul_neg] at h2
  unfold dt unit3
  simp only
  omega

theorem ok_of {x y z : Int} (h : ¬ (x = 0 ∧ y = 0 ∧ z = 0)) (hx : -2199023255552 ≤ x ∧ x ≤ 2199023255552) (hy : -2199023255552 ≤ y ∧ y ≤ 2199023255552) (hz : -2199023255552 ≤ z ∧ z ≤ 2199023255552) : okU x y z = true := by
  have hm : mostI x y z ≤ 2199023255552 := by unfold mostI; simp only [max_r]; rw [sat_id (by omega), sat_id (by omega), sat_id (by omega)]; omega
  obtain ⟨g1, g2, g3, _⟩ := most_spec (x := x) (y := y) (z := z) (by omega)
  unfold okU
  simp
  constructor
  · intro h0; exact h (by omega)
  · omega

/-- What a basis about a direction is. -/
theorem basis_facts {f : V3} (hf : Dir f) : ok3 f = true ∧ Dir (basN f) ∧ Dir (basU f) ∧ Dir (basV f) ∧
    (-4 ≤ (basN f).x - f.x ∧ (basN f).x - f.x ≤ 4) ∧ (-4 ≤ (basN f).y - f.y ∧ (basN f).y - f.y ≤ 4) ∧ (-4 ≤ (basN f).z - f.z ∧ (basN f).z - f.z ≤ 4) ∧
    (-29266 ≤ dt (basU f) (basN f) ∧ dt (basU f) (basN f) ≤ 29266) ∧ (-29266 ≤ dt (basV f) (basN f) ∧ dt (basV f) (basN f) ≤ 29266) ∧ (-29266 ≤ dt (basV f) (basU f) ∧ dt (basV f) (basU f) ≤ 29266) := by
  obtain ⟨hok, hs⟩ := unit_self4 hf
  have hok : ok3 f = true := hok
  obtain ⟨b1, b2, b3⟩ := bas_yes hok
  have cf := coord_r hf.2
  have hN := dir_unit hok
  have c1 := hs f.x cf.1; have c2 := hs f.y cf.2.1; have c3 := hs f.z cf.2.2
  rw [← b1] at b2 b3 hN
  rw [← b2] at b3
  have n1 : (basN f).x = unitC f.x f.y f.z f.x := by rw [b1]; rfl
  have n2 : (basN f).y = unitC f.x f.y f.z f.y := by rw [b1]; rfl
  have n3 : (basN f).z = unitC f.x f.y f.z f.z := by rw [b1]; rfl
  rw [← n1] at c1; rw [← n2] at c2; rw [← n3] at c3
  have cn := coord_r hN.2
  have nN := dir_near hN
  generalize hNN : basN f = n at *
  -- the axis beside it
  have ax : ok3 (cross3 (axis3 n) n) = true ∧ dt (cross3 (axis3 n) n) n = 0 := by
    have key : ∀ a : V3, near3 a = true → (n.y = 0 ∧ n.z = 0 ∧ a = ⟨1, 0, 0⟩ ∨ n.x = 0 ∧ n.z = 0 ∧ a = ⟨0, 1, 0⟩ ∨ n.x = 0 ∧ n.y = 0 ∧ a = ⟨0, 0, 1⟩ → False) → (a = ⟨1, 0, 0⟩ ∨ a = ⟨0, 1, 0⟩ ∨ a = ⟨0, 0, 1⟩) → ok3 (cross3 a n) = true ∧ dt (cross3 a n) n = 0 := by
      intro a ha hno hx
      rw [cross_eq ha nN]
      constructor
      · unfold ok3
        rcases hx with rfl | rfl | rfl
        · exact ok_of (by simp only; intro h; exact hno (.inl ⟨by omega, by omega, rfl⟩)) (by simp only; omega) (by simp only; omega) (by simp only; omega)
        · exact ok_of (by simp only; intro h; exact hno (.inr (.inl ⟨by omega, by omega, rfl⟩))) (by simp only; omega) (by simp only; omega) (by simp only; omega)
        · exact ok_of (by simp only; intro h; exact hno (.inr (.inr ⟨by omega, by omega, rfl⟩))) (by simp only; omega) (by simp only; omega) (by simp only; omega)
      · unfold dt; simp only; grind
    have pos : ¬ (n.x = 0 ∧ n.y = 0 ∧ n.z = 0) := by
      rintro ⟨h1, h2, h3⟩
      have := hN.1
      rw [h1, h2, h3] at this; omega
    unfold axis3
    split
    · rename_i h
      refine key _ (by decide) (fun hh => ?_) (.inl rfl)
      rcases hh with ⟨h1, h2, _⟩ | ⟨_, _, h3⟩ | ⟨_, _, h3⟩
      · rw [h1, h2] at h; exact pos ⟨by unfold sz at h; omega, h1, h2⟩
      · cases h3
      · cases h3
    · split
      · rename_i h0 h
        refine key _ (by decide) (fun hh => ?_) (.inr (.inl rfl))
        rcases hh with ⟨_, _, h3⟩ | ⟨h1, h2, _⟩ | ⟨_, _, h3⟩
        · cases h3
        · rw [h2] at h; exact pos ⟨h1, by unfold sz at h; omega, h2⟩
        · cases h3
      · rename_i h0 h
        refine key _ (by decide) (fun hh => ?_) (.inr (.inr rfl))
        rcases hh with ⟨_, _, h3⟩ | ⟨_, _, h3⟩ | ⟨h1, h2, _⟩
        · cases h3
        · cases h3
        · exact h (by rw [h2]; unfold sz; omega)
  have hU : Dir (basU f) := by rw [b2]; exact dir_unit ax.1
  have oUN := orth_of ax.1 hN ax.2
  rw [← b2] at oUN
  have nU := dir_near hU
  have cu := coord_r hU.2
  generalize basU f = u at *
  have hE : cross3 n u = ⟨n.y * u.z - n.z * u.y, n.z * u.x - n.x * u.z, n.x * u.y - n.y * u.x⟩ := cross_eq nN nU
  have okE : ok3 (cross3 n u) = true := by
    rw [hE]
    have m : ∀ p q : Int, (-16384 ≤ p ∧ p ≤ 16384) → (-16384 ≤ q ∧ q ≤ 16384) → -268435456 ≤ p * q ∧ p * q ≤ 268435456 := fun p q h k => by have := mul_abs h k; omega
    have m1 := m n.y u.z cn.2.1 cu.2.2; have m2 := m n.z u.y cn.2.2 cu.2.1; have m3 := m n.z u.x cn.2.2 cu.1; have m4 := m n.x u.z cn.1 cu.2.2; have m5 := m n.x u.y cn.1 cu.2.1; have m6 := m n.y u.x cn.2.1 cu.1
    refine ok_of ?_ (by simp only; omega) (by simp only; omega) (by simp only; omega)
    rintro ⟨h1, h2, h3⟩
    simp only at h1 h2 h3
    have lag : (n.x * n.x + n.y * n.y + n.z * n.z) * (u.x * u.x + u.y * u.y + u.z * u.z) = dt u n * dt u n + (n.y * u.z - n.z * u.y) * (n.y * u.z - n.z * u.y) + (n.z * u.x - n.x * u.z) * (n.z * u.x - n.x * u.z) + (n.x * u.y - n.y * u.x) * (n.x * u.y - n.y * u.x) := by
      unfold dt; clear m1 m2 m3 m4 m5 m6 h1 h2 h3 hN hU oUN; grind
    rw [h1, h2, h3] at lag
    have := mul_mono (a := 268369924) (b := n.x * n.x + n.y * n.y + n.z * n.z) (c := 268369924) (d := u.x * u.x + u.y * u.y + u.z * u.z) (by omega) hN.1 (by omega) hU.1
    have := sq_le oUN.1 oUN.2
    omega
  have o2 : dt (cross3 n u) n = 0 := by rw [hE]; unfold dt; simp only; clear hN hU oUN; grind
  have o3 : dt (cross3 n u) u = 0 := by rw [hE]; unfold dt; simp only; clear hN hU oUN; grind
  have hV : Dir (basV f) := by rw [b3]; exact dir_unit okE
  have oVN := orth_of okE hN o2
  have oVU := orth_of okE hU o3
  rw [← b3] at oVN oVU
  exact ⟨hok, hN, hU, hV, c1, c2, c3, oUN, oVN, oVU⟩

/-- What is thrown anywhere on a side. -/
theorem half_facts {f : V3} (hf : Dir f) (u a : Int) : ∃ w : V3, half3 f u a = unit3 w ∧ ok3 w = true ∧ -1048576 ≤ dt (half3 f u a) f := by
  obtain ⟨hok, hN, hU, hV, c1, c2, c3, o1, o2, o3⟩ := basis_facts hf
  have hl := half_len u a
  have hx := ringC_r (r := discR u) (cosT_r a); have hy := ringC_r (r := discR u) (sinT_r a); have hz := halfZ_r u
  have e : half3 f u a = unit3 (out3 (basU f) (basV f) (basN f) ⟨ringC (cosT a) (discR u), ringC (sinT a) (discR u), halfZ u⟩) := by unfold half3 about3; rw [if_pos hok]
  have nw : near3 ⟨ringC (cosT a) (discR u), ringC (sinT a) (discR u), halfZ u⟩ = true := decide_eq_true (by simp only; omega)
  have eo : out3 (basU f) (basV f) (basN f) ⟨ringC (cosT a) (discR u), ringC (sinT a) (discR u), halfZ u⟩ =
      ⟨outC (basU f).x (basV f).x (basN f).x (ringC (cosT a) (discR u)) (ringC (sinT a) (discR u)) (halfZ u), outC (basU f).y (basV f).y (basN f).y (ringC (cosT a) (discR u)) (ringC (sinT a) (discR u)) (halfZ u),
        outC (basU f).z (basV f).z (basN f).z (ringC (cosT a) (discR u)) (ringC (sinT a) (discR u)) (halfZ u)⟩ := by
    unfold out3; rw [if_pos ⟨dir_near hU, dir_near hV, dir_near hN, nw⟩]
  rw [eo] at e
  have core := half_core hf hN hU hV c1 c2 c3 o1 o2 o3 hx hy hz hl rfl rfl rfl
  have side := half_side hf core
  refine ⟨_, e, core.1, ?_⟩
  rw [e]
  exact side

end Go.Sky

/- Matter: the plain law of what is thrown. -/
set_option linter.unusedSimpArgs false
set_option linter.unusedVariables false
namespace Go.Sky

theorem dotN_comm (a b c d e f : Int) : dotN a b c d e f = dotN d e f a b c := by
  unfold dotN dotI
  by_cases h : nearB a b c = true ∧ nearB d e f = true
  · rw [if_pos h, if_pos ⟨h.2, h.1⟩, Int.mul_comm a, Int.mul_comm b, Int.mul_comm c]
  · rw [if_neg h, if_neg (fun k => h ⟨k.2, k.1⟩)]

theorem dot_dt {a b : V3} (ha : near3 a = true) (hb : near3 b = true) : dotN a.x a.y a.z b.x b.y b.z = dt b a := by
  rw [dotN_eq ha hb]; unfold dt; rw [Int.mul_comm a.x, Int.mul_comm a.y, Int.mul_comm a.z]

theorem dir_ne {v : V3} (h : Dir v) : v ≠ ⟨0, 0, 0⟩ := by
  rintro rfl
  have := h.1
  simp at this

theorem dir_short {v : V3} (h : Dir v) : shortB v.x v.y v.z = true := by have := coord_r h.2; exact decide_eq_true (by omega)

theorem fac_dir {n i : V3} (hn : Dir n) (hi : Dir i) : Dir (fac3 n i) ∧ 0 ≤ -(i.x * (fac3 n i).x + i.y * (fac3 n i).y + i.z * (fac3 n i).z) := by
  obtain ⟨f1, f2⟩ := fac_facts (ux := n.x) (uy := n.y) (uz := n.z) (dx := i.x) (dy := i.y) (dz := i.z) (dir_near hn) (dir_near hi)
  constructor
  · unfold Dir fac3; simp only; rw [f1]; exact hn
  · show 0 ≤ -(i.x * facC n.x n.x n.y n.z i.x i.y i.z + i.y * facC n.y n.x n.y n.z i.x i.y i.z + i.z * facC n.z n.x n.y n.z i.x i.y i.z)
    rw [← f2]; exact sz_nn _

/-- The mirrored direction. -/
theorem mir_facts {i f : V3} (hi : Dir i) (hf : Dir f) (h0 : 0 ≤ -(i.x * f.x + i.y * f.y + i.z * f.z)) : ok3 (mir3 i f) = true ∧ -1048576 ≤ dt (unit3 (mir3 i f)) f := by
  have e : ∀ d n : Int, mirC d n i f = d - n * (2 * (-(-(i.x * f.x + i.y * f.y + i.z * f.z)))) / 268435456 := by
    intro d n
    unfold mirC
    rw [if_pos ⟨dir_near hi, dir_near hf⟩, Int.neg_neg]; rfl
  exact mir_side hi hf rfl h0 (e i.x f.x) (e i.y f.y) (e i.z f.z)

theorem unit3_len {w : V3} (h : ok3 w = true) : 16382 ≤ isq (dotN (unit3 w).x (unit3 w).y (unit3 w).z (unit3 w).x (unit3 w).y (unit3 w).z) ∧ isq (dotN (unit3 w).x (unit3 w).y (unit3 w).z (unit3 w).x (unit3 w).y (unit3 w).z) ≤ 16384 := unit_len h

/-- What is thrown about a direction is one, or nothing. -/
theorem cone_unit (n : V3) (c u a : Int) : cone3 n c u a = ⟨0, 0, 0⟩ ∨ ∃ w, cone3 n c u a = unit3 w ∧ ok3 w = true := by
  unfold cone3
  split
  · unfold about3
    split
    · generalize out3 _ _ _ _ = w
      cases h : ok3 w
      · left
        unfold unit3
        rw [unitC_no h, unitC_no h, unitC_no h]
      · exact .inr ⟨w, rfl, h⟩
    · exact .inl rfl
  · exact .inl rfl

section
variable {k r g b x : Int} {n i : V3} {u a w : Int}

theorem side_law (hn : Dir n) (hi : Dir i) (hm : matB k r g b x = true) :
    ((thr3 k r g b x n i u a w).2 = false → k = 4 ∧ (thr3 k r g b x n i u a w).1 = ⟨0, 0, 0⟩) ∧
    ((thr3 k r g b x n i u a w).2 = true →
      (16382 ≤ isq (dotN (thr3 k r g b x n i u a w).1.x (thr3 k r g b x n i u a w).1.y (thr3 k r g b x n i u a w).1.z (thr3 k r g b x n i u a w).1.x (thr3 k r g b x n i u a w).1.y (thr3 k r g b x n i u a w).1.z) ∧
        isq (dotN (thr3 k r g b x n i u a w).1.x (thr3 k r g b x n i u a w).1.y (thr3 k r g b x n i u a w).1.z (thr3 k r g b x n i u a w).1.x (thr3 k r g b x n i u a w).1.y (thr3 k r g b x n i u a w).1.z) ≤ 16384) ∧
      (k = 3 → dot3 (fac3 n i) (thr3 k r g b x n i u a w).1 ≤ 4194304 ∨ ok3 (mir3 i (fac3 n i)) = true ∧ (thr3 k r g b x n i u a w).1 = unit3 (mir3 i (fac3 n i))) ∧
      (k ≠ 3 → -1048576 ≤ dot3 (fac3 n i) (thr3 k r g b x n i u a w).1)) := by
  obtain ⟨hc, hk⟩ := mat_cases hm
  have ok := thr_ok hm (dir_short hn) (dir_short hi) (dir_ne hn) (dir_ne hi)
  obtain ⟨hf, h0⟩ := fac_dir hn hi
  obtain ⟨m1, m2⟩ := mir_facts hi hf h0
  have dd : ∀ {v : V3}, near3 v = true → dot3 (fac3 n i) v = dt v (fac3 n i) := fun hv => dot_dt (dir_near hf) hv
  rcases hk with ⟨rfl, rfl⟩ | ⟨rfl, rfl⟩ | ⟨rfl, h1, h2⟩ | ⟨rfl, h1, h2⟩
  · rw [thr_1 ok]
    obtain ⟨v, e, hv, hs⟩ := half_facts hf u a
    have hd : Dir (half3 (fac3 n i) u a) := by rw [e]; exact dir_unit hv
    refine ⟨fun h => absurd (dir_ne hd) (of_decide_eq_false h), fun _ => ⟨by simp only; rw [e]; exact unit3_len hv, fun h => by omega, fun _ => by simp only; rw [dd (dir_near hd)]; exact hs⟩⟩
  · rw [thr_2 ok]
    refine ⟨fun h => (by simp only [m1] at h; cases h), fun _ => ⟨unit3_len m1, fun h => by omega, fun _ => by simp only; rw [dd (dir_near (dir_unit m1))]; exact m2⟩⟩
  · rw [thr_3 ok]
    split
    · rename_i hg
      have hg2 : bendB i n (if dot3 n i > 0 then x else 16384) (if dot3 n i > 0 then 16384 else x) = true := by
        unfold glB at hg; rw [Bool.and_eq_true] at hg; exact hg.2
      have fin : ∀ p q : Int, (16384 ≤ p ∧ p ≤ 65536) → (16384 ≤ q ∧ q ≤ 65536) → bendB i n p q = true → (16382 ≤ isq (dotN (bend3 i n p q).x (bend3 i n p q).y (bend3 i n p q).z (bend3 i n p q).x (bend3 i n p q).y (bend3 i n p q).z) ∧
          isq (dotN (bend3 i n p q).x (bend3 i n p q).y (bend3 i n p q).z (bend3 i n p q).x (bend3 i n p q).y (bend3 i n p q).z) ≤ 16384) ∧ dot3 (fac3 n i) (bend3 i n p q) ≤ 4194304 := by
        intro p q hp hq hb
        obtain ⟨_, _, F⟩ := bend_facts (dx := i.x) (dy := i.y) (dz := i.z) (ux := n.x) (uy := n.y) (uz := n.z) hi hn hp hq
        obtain ⟨F1, F2, F3⟩ := F hb
        refine ⟨⟨F2, F3⟩, ?_⟩
        unfold dot3
        rw [dotN_comm]
        exact F1
      have := fin (if dot3 n i > 0 then x else 16384) (if dot3 n i > 0 then 16384 else x) (by split <;> omega) (by split <;> omega) hg2
      exact ⟨fun h => (by cases h), fun _ => ⟨this.1, fun _ => .inl this.2, fun h => absurd rfl h⟩⟩
    · exact ⟨fun h => (by simp only [m1] at h; cases h), fun _ => ⟨unit3_len m1, fun _ => .inr ⟨m1, rfl⟩, fun h => absurd rfl h⟩⟩
  · rw [thr_4 ok]
    split
    · rename_i hg
      refine ⟨fun h => (by cases h), fun _ => ?_⟩
      rcases cone_unit (unit3 (mir3 i (fac3 n i))) (16384 - 16384 / x) u a with h | ⟨v, h, hv⟩
      · exfalso
        have h3 : glossD x n i u a = ⟨0, 0, 0⟩ := h
        have := hg.2
        rw [h3, dd (by decide)] at this
        unfold dt at this
        simp at this
      · have h3 : glossD x n i u a = unit3 v := h
        refine ⟨by simp only; rw [h3]; exact unit3_len hv, fun h => by omega, fun _ => ?_⟩
        have := hg.2
        simp only; omega
    · exact ⟨fun _ => ⟨rfl, rfl⟩, fun h => by cases h⟩

end
end Go.Sky

/- Trees of functions, and what they come to. -/
set_option linter.unusedSimpArgs false
set_option linter.unusedVariables false
namespace Go.Sky
set_option maxRecDepth 100000

/-! skylightlaw25.MatterSide -/
def tr_skylightlaw25_MatterSide (m_k : Int) (m_c_r : Int) (m_c_g : Int) (m_c_b : Int) (m_x : Int) (a_x : Int) (a_y : Int) (a_z : Int) (b_x : Int) (b_y : Int) (b_z : Int) (u : Int) (q : Int) (w : Int) : Tr AV := Tr.node (!okU a_x a_y a_z) (Tr.leaf (AV.bool false true)) (Tr.node (!okU b_x b_y b_z) (Tr.leaf (AV.bool false true)) (Tr.node (!matB m_k m_c_r m_c_g m_c_b m_x) (Tr.leaf (AV.bool false true)) (Tr.node (!(thr3 m_k m_c_r m_c_g m_c_b m_x { x := unitC a_x a_y a_z a_x, y := unitC a_x a_y a_z a_y, z := unitC a_x a_y a_z a_z } { x := unitC b_x b_y b_z b_x, y := unitC b_x b_y b_z b_y, z := unitC b_x b_y b_z b_z } u q w).snd) (Tr.node (m_k == 4) (Tr.node ((thr3 m_k m_c_r m_c_g m_c_b m_x { x := unitC a_x a_y a_z a_x, y := unitC a_x a_y a_z a_y, z := unitC a_x a_y a_z a_z } { x := unitC b_x b_y b_z b_x, y := unitC b_x b_y b_z b_y, z := unitC b_x b_y b_z b_z } u q w).fst.x == 0 && ((thr3 m_k m_c_r m_c_g m_c_b m_x { x := unitC a_x a_y a_z a_x, y := unitC a_x a_y a_z a_y, z := unitC a_x a_y a_z a_z } { x := unitC b_x b_y b_z b_x, y := unitC b_x b_y b_z b_y, z := unitC b_x b_y b_z b_z } u q w).fst.y == 0 && ((thr3 m_k m_c_r m_c_g m_c_b m_x { x := unitC a_x a_y a_z a_x, y := unitC a_x a_y a_z a_y, z := unitC a_x a_y a_z a_z } { x := unitC b_x b_y b_z b_x, y := unitC b_x b_y b_z b_y, z := unitC b_x b_y b_z b_z } u q w).fst.z == 0 && true))) (Tr.leaf (AV.bool false true)) (Tr.leaf (AV.bool false false))) (Tr.leaf (AV.bool false false))) (Tr.node (decide (isq (dotN (thr3 m_k m_c_r m_c_g m_c_b m_x { x := unitC a_x a_y a_z a_x, y := unitC a_x a_y a_z a_y, z := unitC a_x a_y a_z a_z } { x := unitC b_x b_y b_z b_x, y := unitC b_x b_y b_z b_y, z := unitC b_x b_y b_z b_z } u q w).fst.x (thr3 m_k m_c_r m_c_g m_c_b m_x { x := unitC a_x a_y a_z a_x, y := unitC a_x a_y a_z a_y, z := unitC a_x a_y a_z a_z } { x := unitC b_x b_y b_z b_x, y := unitC b_x b_y b_z b_y, z := unitC b_x b_y b_z b_z } u q w).fst.y (thr3 m_k m_c_r m_c_g m_c_b m_x { x := unitC a_x a_y a_z a_x, y := unitC a_x a_y a_z a_y, z := unitC a_x a_y a_z a_z } { x := unitC b_x b_y b_z b_x, y := unitC b_x b_y b_z b_y, z := unitC b_x b_y b_z b_z } u q w).fst.z (thr3 m_k m_c_r m_c_g m_c_b m_x { x := unitC a_x a_y a_z a_x, y := unitC a_x a_y a_z a_y, z := unitC a_x a_y a_z a_z } { x := unitC b_x b_y b_z b_x, y := unitC b_x b_y b_z b_y, z := unitC b_x b_y b_z b_z } u q w).fst.x (thr3 m_k m_c_r m_c_g m_c_b m_x { x := unitC a_x a_y a_z a_x, y := unitC a_x a_y a_z a_y, z := unitC a_x a_y a_z a_z } { x := unitC b_x b_y b_z b_x, y := unitC b_x b_y b_z b_y, z := unitC b_x b_y b_z b_z } u q w).fst.y (thr3 m_k m_c_r m_c_g m_c_b m_x { x := unitC a_x a_y a_z a_x, y := unitC a_x a_y a_z a_y, z := unitC a_x a_y a_z a_z } { x := unitC b_x b_y b_z b_x, y := unitC b_x b_y b_z b_y, z := unitC b_x b_y b_z b_z } u q w).fst.z) < 16382)) (Tr.leaf (AV.bool false false)) (Tr.node (decide (isq (dotN (thr3 m_k m_c_r m_c_g m_c_b m_x { x := unitC a_x a_y a_z a_x, y := unitC a_x a_y a_z a_y, z := unitC a_x a_y a_z a_z } { x := unitC b_x b_y b_z b_x, y := unitC b_x b_y b_z b_y, z := unitC b_x b_y b_z b_z } u q w).fst.x (thr3 m_k m_c_r m_c_g m_c_b m_x { x := unitC a_x a_y a_z a_x, y := unitC a_x a_y a_z a_y, z := unitC a_x a_y a_z a_z } { x := unitC b_x b_y b_z b_x, y := unitC b_x b_y b_z b_y, z := unitC b_x b_y b_z b_z } u q w).fst.y (thr3 m_k m_c_r m_c_g m_c_b m_x { x := unitC a_x a_y a_z a_x, y := unitC a_x a_y a_z a_y, z := unitC a_x a_y a_z a_z } { x := unitC b_x b_y b_z b_x, y := unitC b_x b_y b_z b_y, z := unitC b_x b_y b_z b_z } u q w).fst.z (thr3 m_k m_c_r m_c_g m_c_b m_x { x := unitC a_x a_y a_z a_x, y := unitC a_x a_y a_z a_y, z := unitC a_x a_y a_z a_z } { x := unitC b_x b_y b_z b_x, y := unitC b_x b_y b_z b_y, z := unitC b_x b_y b_z b_z } u q w).fst.x (thr3 m_k m_c_r m_c_g m_c_b m_x { x := unitC a_x a_y a_z a_x, y := unitC a_x a_y a_z a_y, z := unitC a_x a_y a_z a_z } { x := unitC b_x b_y b_z b_x, y := unitC b_x b_y b_z b_y, z := unitC b_x b_y b_z b_z } u q w).fst.y (thr3 m_k m_c_r m_c_g m_c_b m_x { x := unitC a_x a_y a_z a_x, y := unitC a_x a_y a_z a_y, z := unitC a_x a_y a_z a_z } { x := unitC b_x b_y b_z b_x, y := unitC b_x b_y b_z b_y, z := unitC b_x b_y b_z b_z } u q w).fst.z) > 16384)) (Tr.leaf (AV.bool false false)) (Tr.node (m_k == 3) (Tr.node (decide (dotN (facC (unitC a_x a_y a_z a_x) (unitC a_x a_y a_z a_x) (unitC a_x a_y a_z a_y) (unitC a_x a_y a_z a_z) (unitC b_x b_y b_z b_x) (unitC b_x b_y b_z b_y) (unitC b_x b_y b_z b_z)) (facC (unitC a_x a_y a_z a_y) (unitC a_x a_y a_z a_x) (unitC a_x a_y a_z a_y) (unitC a_x a_y a_z a_z) (unitC b_x b_y b_z b_x) (unitC b_x b_y b_z b_y) (unitC b_x b_y b_z b_z)) (facC (unitC a_x a_y a_z a_z) (unitC a_x a_y a_z a_x) (unitC a_x a_y a_z a_y) (unitC a_x a_y a_z a_z) (unitC b_x b_y b_z b_x) (unitC b_x b_y b_z b_y) (unitC b_x b_y b_z b_z)) (thr3 m_k m_c_r m_c_g m_c_b m_x { x := unitC a_x a_y a_z a_x, y := unitC a_x a_y a_z a_y, z := unitC a_x a_y a_z a_z } { x := unitC b_x b_y b_z b_x, y := unitC b_x b_y b_z b_y, z := unitC b_x b_y b_z b_z } u q w).fst.x (thr3 m_k m_c_r m_c_g m_c_b m_x { x := unitC a_x a_y a_z a_x, y := unitC a_x a_y a_z a_y, z := unitC a_x a_y a_z a_z } { x := unitC b_x b_y b_z b_x, y := unitC b_x b_y b_z b_y, z := unitC b_x b_y b_z b_z } u q w).fst.y (thr3 m_k m_c_r m_c_g m_c_b m_x { x := unitC a_x a_y a_z a_x, y := unitC a_x a_y a_z a_y, z := unitC a_x a_y a_z a_z } { x := unitC b_x b_y b_z b_x, y := unitC b_x b_y b_z b_y, z := unitC b_x b_y b_z b_z } u q w).fst.z ≤ 4194304)) (Tr.leaf (AV.bool false true)) (Tr.node (okU (mir3 { x := unitC b_x b_y b_z b_x, y := unitC b_x b_y b_z b_y, z := unitC b_x b_y b_z b_z } { x := facC (unitC a_x a_y a_z a_x) (unitC a_x a_y a_z a_x) (unitC a_x a_y a_z a_y) (unitC a_x a_y a_z a_z) (unitC b_x b_y b_z b_x) (unitC b_x b_y b_z b_y) (unitC b_x b_y b_z b_z), y := facC (unitC a_x a_y a_z a_y) (unitC a_x a_y a_z a_x) (unitC a_x a_y a_z a_y) (unitC a_x a_y a_z a_z) (unitC b_x b_y b_z b_x) (unitC b_x b_y b_z b_y) (unitC b_x b_y b_z b_z), z := facC (unitC a_x a_y a_z a_z) (unitC a_x a_y a_z a_x) (unitC a_x a_y a_z a_y) (unitC a_x a_y a_z a_z) (unitC b_x b_y b_z b_x) (unitC b_x b_y b_z b_y) (unitC b_x b_y b_z b_z) }).x (mir3 { x := unitC b_x b_y b_z b_x, y := unitC b_x b_y b_z b_y, z := unitC b_x b_y b_z b_z } { x := facC (unitC a_x a_y a_z a_x) (unitC a_x a_y a_z a_x) (unitC a_x a_y a_z a_y) (unitC a_x a_y a_z a_z) (unitC b_x b_y b_z b_x) (unitC b_x b_y b_z b_y) (unitC b_x b_y b_z b_z), y := facC (unitC a_x a_y a_z a_y) (unitC a_x a_y a_z a_x) (unitC a_x a_y a_z a_y) (unitC a_x a_y a_z a_z) (unitC b_x b_y b_z b_x) (unitC b_x b_y b_z b_y) (unitC b_x b_y b_z b_z), z := facC (unitC a_x a_y a_z a_z) (unitC a_x a_y a_z a_x) (unitC a_x a_y a_z a_y) (unitC a_x a_y a_z a_z) (unitC b_x b_y b_z b_x) (unitC b_x b_y b_z b_y) (unitC b_x b_y b_z b_z) }).y (mir3 { x := unitC b_x b_y b_z b_x, y := unitC b_x b_y b_z b_y, z := unitC b_x b_y b_z b_z } { x := facC (unitC a_x a_y a_z a_x) (unitC a_x a_y a_z a_x) (unitC a_x a_y a_z a_y) (unitC a_x a_y a_z a_z) (unitC b_x b_y b_z b_x) (unitC b_x b_y b_z b_y) (unitC b_x b_y b_z b_z), y := facC (unitC a_x a_y a_z a_y) (unitC a_x a_y a_z a_x) (unitC a_x a_y a_z a_y) (unitC a_x a_y a_z a_z) (unitC b_x b_y b_z b_x) (unitC b_x b_y b_z b_y) (unitC b_x b_y b_z b_z), z := facC (unitC a_x a_y a_z a_z) (unitC a_x a_y a_z a_x) (unitC a_x a_y a_z a_y) (unitC a_x a_y a_z a_z) (unitC b_x b_y b_z b_x) (unitC b_x b_y b_z b_y) (unitC b_x b_y b_z b_z) }).z) (Tr.node ((thr3 m_k m_c_r m_c_g m_c_b m_x { x := unitC a_x a_y a_z a_x, y := unitC a_x a_y a_z a_y, z := unitC a_x a_y a_z a_z } { x := unitC b_x b_y b_z b_x, y := unitC b_x b_y b_z b_y, z := unitC b_x b_y b_z b_z } u q w).fst.x == unitC (mir3 { x := unitC b_x b_y b_z b_x, y := unitC b_x b_y b_z b_y, z := unitC b_x b_y b_z b_z } { x := facC (unitC a_x a_y a_z a_x) (unitC a_x a_y a_z a_x) (unitC a_x a_y a_z a_y) (unitC a_x a_y a_z a_z) (unitC b_x b_y b_z b_x) (unitC b_x b_y b_z b_y) (unitC b_x b_y b_z b_z), y := facC (unitC a_x a_y a_z a_y) (unitC a_x a_y a_z a_x) (unitC a_x a_y a_z a_y) (unitC a_x a_y a_z a_z) (unitC b_x b_y b_z b_x) (unitC b_x b_y b_z b_y) (unitC b_x b_y b_z b_z), z := facC (unitC a_x a_y a_z a_z) (unitC a_x a_y a_z a_x) (unitC a_x a_y a_z a_y) (unitC a_x a_y a_z a_z) (unitC b_x b_y b_z b_x) (unitC b_x b_y b_z b_y) (unitC b_x b_y b_z b_z) }).x (mir3 { x := unitC b_x b_y b_z b_x, y := unitC b_x b_y b_z b_y, z := unitC b_x b_y b_z b_z } { x := facC (unitC a_x a_y a_z a_x) (unitC a_x a_y a_z a_x) (unitC a_x a_y a_z a_y) (unitC a_x a_y a_z a_z) (unitC b_x b_y b_z b_x) (unitC b_x b_y b_z b_y) (unitC b_x b_y b_z b_z), y := facC (unitC a_x a_y a_z a_y) (unitC a_x a_y a_z a_x) (unitC a_x a_y a_z a_y) (unitC a_x a_y a_z a_z) (unitC b_x b_y b_z b_x) (unitC b_x b_y b_z b_y) (unitC b_x b_y b_z b_z), z := facC (unitC a_x a_y a_z a_z) (unitC a_x a_y a_z a_x) (unitC a_x a_y a_z a_y) (unitC a_x a_y a_z a_z) (unitC b_x b_y b_z b_x) (unitC b_x b_y b_z b_y) (unitC b_x b_y b_z b_z) }).y (mir3 { x := unitC b_x b_y b_z b_x, y := unitC b_x b_y b_z b_y, z := unitC b_x b_y b_z b_z } { x := facC (unitC a_x a_y a_z a_x) (unitC a_x a_y a_z a_x) (unitC a_x a_y a_z a_y) (unitC a_x a_y a_z a_z) (unitC b_x b_y b_z b_x) (unitC b_x b_y b_z b_y) (unitC b_x b_y b_z b_z), y := facC (unitC a_x a_y a_z a_y) (unitC a_x a_y a_z a_x) (unitC a_x a_y a_z a_y) (unitC a_x a_y a_z a_z) (unitC b_x b_y b_z b_x) (unitC b_x b_y b_z b_y) (unitC b_x b_y b_z b_z), z := facC (unitC a_x a_y a_z a_z) (unitC a_x a_y a_z a_x) (unitC a_x a_y a_z a_y) (unitC a_x a_y a_z a_z) (unitC b_x b_y b_z b_x) (unitC b_x b_y b_z b_y) (unitC b_x b_y b_z b_z) }).z (mir3 { x := unitC b_x b_y b_z b_x, y := unitC b_x b_y b_z b_y, z := unitC b_x b_y b_z b_z } { x := facC (unitC a_x a_y a_z a_x) (unitC a_x a_y a_z a_x) (unitC a_x a_y a_z a_y) (unitC a_x a_y a_z a_z) (unitC b_x b_y b_z b_x) (unitC b_x b_y b_z b_y) (unitC b_x b_y b_z b_z), y := facC (unitC a_x a_y a_z a_y) (unitC a_x a_y a_z a_x) (unitC a_x a_y a_z a_y) (unitC a_x a_y a_z a_z) (unitC b_x b_y b_z b_x) (unitC b_x b_y b_z b_y) (unitC b_x b_y b_z b_z), z := facC (unitC a_x a_y a_z a_z) (unitC a_x a_y a_z a_x) (unitC a_x a_y a_z a_y) (unitC a_x a_y a_z a_z) (unitC b_x b_y b_z b_x) (unitC b_x b_y b_z b_y) (unitC b_x b_y b_z b_z) }).x && ((thr3 m_k m_c_r m_c_g m_c_b m_x { x := unitC a_x a_y a_z a_x, y := unitC a_x a_y a_z a_y, z := unitC a_x a_y a_z a_z } { x := unitC b_x b_y b_z b_x, y := unitC b_x b_y b_z b_y, z := unitC b_x b_y b_z b_z } u q w).fst.y == unitC (mir3 { x := unitC b_x b_y b_z b_x, y := unitC b_x b_y b_z b_y, z := unitC b_x b_y b_z b_z } { x := facC (unitC a_x a_y a_z a_x) (unitC a_x a_y a_z a_x) (unitC a_x a_y a_z a_y) (unitC a_x a_y a_z a_z) (unitC b_x b_y b_z b_x) (unitC b_x b_y b_z b_y) (unitC b_x b_y b_z b_z), y := facC (unitC a_x a_y a_z a_y) (unitC a_x a_y a_z a_x) (unitC a_x a_y a_z a_y) (unitC a_x a_y a_z a_z) (unitC b_x b_y b_z b_x) (unitC b_x b_y b_z b_y) (unitC b_x b_y b_z b_z), z := facC (unitC a_x a_y a_z a_z) (unitC a_x a_y a_z a_x) (unitC a_x a_y a_z a_y) (unitC a_x a_y a_z a_z) (unitC b_x b_y b_z b_x) (unitC b_x b_y b_z b_y) (unitC b_x b_y b_z b_z) }).x (mir3 { x := unitC b_x b_y b_z b_x, y := unitC b_x b_y b_z b_y, z := unitC b_x b_y b_z b_z } { x := facC (unitC a_x a_y a_z a_x) (unitC a_x a_y a_z a_x) (unitC a_x a_y a_z a_y) (unitC a_x a_y a_z a_z) (unitC b_x b_y b_z b_x) (unitC b_x b_y b_z b_y) (unitC b_x b_y b_z b_z), y := facC (unitC a_x a_y a_z a_y) (unitC a_x a_y a_z a_x) (unitC a_x a_y a_z a_y) (unitC a_x a_y a_z a_z) (unitC b_x b_y b_z b_x) (unitC b_x b_y b_z b_y) (unitC b_x b_y b_z b_z), z := facC (unitC a_x a_y a_z a_z) (unitC a_x a_y a_z a_x) (unitC a_x a_y a_z a_y) (unitC a_x a_y a_z a_z) (unitC b_x b_y b_z b_x) (unitC b_x b_y b_z b_y) (unitC b_x b_y b_z b_z) }).y (mir3 { x := unitC b_x b_y b_z b_x, y := unitC b_x b_y b_z b_y, z := unitC b_x b_y b_z b_z } { x := facC (unitC a_x a_y a_z a_x) (unitC a_x a_y a_z a_x) (unitC a_x a_y a_z a_y) (unitC a_x a_y a_z a_z) (unitC b_x b_y b_z b_x) (unitC b_x b_y b_z b_y) (unitC b_x b_y b_z b_z), y := facC (unitC a_x a_y a_z a_y) (unitC a_x a_y a_z a_x) (unitC a_x a_y a_z a_y) (unitC a_x a_y a_z a_z) (unitC b_x b_y b_z b_x) (unitC b_x b_y b_z b_y) (unitC b_x b_y b_z b_z), z := facC (unitC a_x a_y a_z a_z) (unitC a_x a_y a_z a_x) (unitC a_x a_y a_z a_y) (unitC a_x a_y a_z a_z) (unitC b_x b_y b_z b_x) (unitC b_x b_y b_z b_y) (unitC b_x b_y b_z b_z) }).z (mir3 { x := unitC b_x b_y b_z b_x, y := unitC b_x b_y b_z b_y, z := unitC b_x b_y b_z b_z } { x := facC (unitC a_x a_y a_z a_x) (unitC a_x a_y a_z a_x) (unitC a_x a_y a_z a_y) (unitC a_x a_y a_z a_z) (unitC b_x b_y b_z b_x) (unitC b_x b_y b_z b_y) (unitC b_x b_y b_z b_z), y := facC (unitC a_x a_y a_z a_y) (unitC a_x a_y a_z a_x) (unitC a_x a_y a_z a_y) (unitC a_x a_y a_z a_z) (unitC b_x b_y b_z b_x) (unitC b_x b_y b_z b_y) (unitC b_x b_y b_z b_z), z := facC (unitC a_x a_y a_z a_z) (unitC a_x a_y a_z a_x) (unitC a_x a_y a_z a_y) (unitC a_x a_y a_z a_z) (unitC b_x b_y b_z b_x) (unitC b_x b_y b_z b_y) (unitC b_x b_y b_z b_z) }).y && ((thr3 m_k m_c_r m_c_g m_c_b m_x { x := unitC a_x a_y a_z a_x, y := unitC a_x a_y a_z a_y, z := unitC a_x a_y a_z a_z } { x := unitC b_x b_y b_z b_x, y := unitC b_x b_y b_z b_y, z := unitC b_x b_y b_z b_z } u q w).fst.z == unitC (mir3 { x := unitC b_x b_y b_z b_x, y := unitC b_x b_y b_z b_y, z := unitC b_x b_y b_z b_z } { x := facC (unitC a_x a_y a_z a_x) (unitC a_x a_y a_z a_x) (unitC a_x a_y a_z a_y) (unitC a_x a_y a_z a_z) (unitC b_x b_y b_z b_x) (unitC b_x b_y b_z b_y) (unitC b_x b_y b_z b_z), y := facC (unitC a_x a_y a_z a_y) (unitC a_x a_y a_z a_x) (unitC a_x a_y a_z a_y) (unitC a_x a_y a_z a_z) (unitC b_x b_y b_z b_x) (unitC b_x b_y b_z b_y) (unitC b_x b_y b_z b_z), z := facC (unitC a_x a_y a_z a_z) (unitC a_x a_y a_z a_x) (unitC a_x a_y a_z a_y) (unitC a_x a_y a_z a_z) (unitC b_x b_y b_z b_x) (unitC b_x b_y b_z b_y) (unitC b_x b_y b_z b_z) }).x (mir3 { x := unitC b_x b_y b_z b_x, y := unitC b_x b_y b_z b_y, z := unitC b_x b_y b_z b_z } { x := facC (unitC a_x a_y a_z a_x) (unitC a_x a_y a_z a_x) (unitC a_x a_y a_z a_y) (unitC a_x a_y a_z a_z) (unitC b_x b_y b_z b_x) (unitC b_x b_y b_z b_y) (unitC b_x b_y b_z b_z), y := facC (unitC a_x a_y a_z a_y) (unitC a_x a_y a_z a_x) (unitC a_x a_y a_z a_y) (unitC a_x a_y a_z a_z) (unitC b_x b_y b_z b_x) (unitC b_x b_y b_z b_y) (unitC b_x b_y b_z b_z), z := facC (unitC a_x a_y a_z a_z) (unitC a_x a_y a_z a_x) (unitC a_x a_y a_z a_y) (unitC a_x a_y a_z a_z) (unitC b_x b_y b_z b_x) (unitC b_x b_y b_z b_y) (unitC b_x b_y b_z b_z) }).y (mir3 { x := unitC b_x b_y b_z b_x, y := unitC b_x b_y b_z b_y, z := unitC b_x b_y b_z b_z } { x := facC (unitC a_x a_y a_z a_x) (unitC a_x a_y a_z a_x) (unitC a_x a_y a_z a_y) (unitC a_x a_y a_z a_z) (unitC b_x b_y b_z b_x) (unitC b_x b_y b_z b_y) (unitC b_x b_y b_z b_z), y := facC (unitC a_x a_y a_z a_y) (unitC a_x a_y a_z a_x) (unitC a_x a_y a_z a_y) (unitC a_x a_y a_z a_z) (unitC b_x b_y b_z b_x) (unitC b_x b_y b_z b_y) (unitC b_x b_y b_z b_z), z := facC (unitC a_x a_y a_z a_z) (unitC a_x a_y a_z a_x) (unitC a_x a_y a_z a_y) (unitC a_x a_y a_z a_z) (unitC b_x b_y b_z b_x) (unitC b_x b_y b_z b_y) (unitC b_x b_y b_z b_z) }).z (mir3 { x := unitC b_x b_y b_z b_x, y := unitC b_x b_y b_z b_y, z := unitC b_x b_y b_z b_z } { x := facC (unitC a_x a_y a_z a_x) (unitC a_x a_y a_z a_x) (unitC a_x a_y a_z a_y) (unitC a_x a_y a_z a_z) (unitC b_x b_y b_z b_x) (unitC b_x b_y b_z b_y) (unitC b_x b_y b_z b_z), y := facC (unitC a_x a_y a_z a_y) (unitC a_x a_y a_z a_x) (unitC a_x a_y a_z a_y) (unitC a_x a_y a_z a_z) (unitC b_x b_y b_z b_x) (unitC b_x b_y b_z b_y) (unitC b_x b_y b_z b_z), z := facC (unitC a_x a_y a_z a_z) (unitC a_x a_y a_z a_x) (unitC a_x a_y a_z a_y) (unitC a_x a_y a_z a_z) (unitC b_x b_y b_z b_x) (unitC b_x b_y b_z b_y) (unitC b_x b_y b_z b_z) }).z && true))) (Tr.leaf (AV.bool false true)) (Tr.leaf (AV.bool false false))) (Tr.leaf (AV.bool false false)))) (Tr.node (decide (dotN (facC (unitC a_x a_y a_z a_x) (unitC a_x a_y a_z a_x) (unitC a_x a_y a_z a_y) (unitC a_x a_y a_z a_z) (unitC b_x b_y b_z b_x) (unitC b_x b_y b_z b_y) (unitC b_x b_y b_z b_z)) (facC (unitC a_x a_y a_z a_y) (unitC a_x a_y a_z a_x) (unitC a_x a_y a_z a_y) (unitC a_x a_y a_z a_z) (unitC b_x b_y b_z b_x) (unitC b_x b_y b_z b_y) (unitC b_x b_y b_z b_z)) (facC (unitC a_x a_y a_z a_z) (unitC a_x a_y a_z a_x) (unitC a_x a_y a_z a_y) (unitC a_x a_y a_z a_z) (unitC b_x b_y b_z b_x) (unitC b_x b_y b_z b_y) (unitC b_x b_y b_z b_z)) (thr3 m_k m_c_r m_c_g m_c_b m_x { x := unitC a_x a_y a_z a_x, y := unitC a_x a_y a_z a_y, z := unitC a_x a_y a_z a_z } { x := unitC b_x b_y b_z b_x, y := unitC b_x b_y b_z b_y, z := unitC b_x b_y b_z b_z } u q w).fst.x (thr3 m_k m_c_r m_c_g m_c_b m_x { x := unitC a_x a_y a_z a_x, y := unitC a_x a_y a_z a_y, z := unitC a_x a_y a_z a_z } { x := unitC b_x b_y b_z b_x, y := unitC b_x b_y b_z b_y, z := unitC b_x b_y b_z b_z } u q w).fst.y (thr3 m_k m_c_r m_c_g m_c_b m_x { x := unitC a_x a_y a_z a_x, y := unitC a_x a_y a_z a_y, z := unitC a_x a_y a_z a_z } { x := unitC b_x b_y b_z b_x, y := unitC b_x b_y b_z b_y, z := unitC b_x b_y b_z b_z } u q w).fst.z ≥ -1048576)) (Tr.leaf (AV.bool false true)) (Tr.leaf (AV.bool false false)))))))))
theorem run_skylightlaw25_MatterSide (m_k : Int) (m_c_r : Int) (m_c_g : Int) (m_c_b : Int) (m_x : Int) (a_x : Int) (a_y : Int) (a_z : Int) (b_x : Int) (b_y : Int) (b_z : Int) (u : Int) (q : Int) (w : Int) (h_m_k : InR .i64 m_k) (h_m_c_r : InR .i64 m_c_r) (h_m_c_g : InR .i64 m_c_g) (h_m_c_b : InR .i64 m_c_b) (h_m_x : InR .i64 m_x) (h_a_x : InR .i64 a_x) (h_a_y : InR .i64 a_y) (h_a_z : InR .i64 a_z) (h_b_x : InR .i64 b_x) (h_b_y : InR .i64 b_y) (h_b_z : InR .i64 b_z) (h_u : InR .i64 u) (h_q : InR .i64 q) (h_w : InR .i64 w) : (tr_skylightlaw25_MatterSide m_k m_c_r m_c_g m_c_b m_x a_x a_y a_z b_x b_y b_z u q w).run = some (bb true) := by
  unfold tr_skylightlaw25_MatterSide
  cases h1 : okU a_x a_y a_z
  · rfl
  cases h2 : okU b_x b_y b_z
  · rfl
  cases hm : matB m_k m_c_r m_c_g m_c_b m_x
  · rfl
  refine (run_f rfl).trans ((run_f rfl).trans ((run_f rfl).trans ?_))
  have hn : Dir ⟨unitC a_x a_y a_z a_x, unitC a_x a_y a_z a_y, unitC a_x a_y a_z a_z⟩ := dir_unit (v := ⟨a_x, a_y, a_z⟩) h1
  have hi : Dir ⟨unitC b_x b_y b_z b_x, unitC b_x b_y b_z b_y, unitC b_x b_y b_z b_z⟩ := dir_unit (v := ⟨b_x, b_y, b_z⟩) h2
  obtain ⟨L1, L2⟩ := side_law (u := u) (a := q) (w := w) hn hi hm
  have dF : ∀ v : V3, dot3 (fac3 ⟨unitC a_x a_y a_z a_x, unitC a_x a_y a_z a_y, unitC a_x a_y a_z a_z⟩ ⟨unitC b_x b_y b_z b_x, unitC b_x b_y b_z b_y, unitC b_x b_y b_z b_z⟩) v = dotN (facC (unitC a_x a_y a_z a_x) (unitC a_x a_y a_z a_x) (unitC a_x a_y a_z a_y) (unitC a_x a_y a_z a_z) (unitC b_x b_y b_z b_x) (unitC b_x b_y b_z b_y) (unitC b_x b_y b_z b_z)) (facC (unitC a_x a_y a_z a_y) (unitC a_x a_y a_z a_x) (unitC a_x a_y a_z a_y) (unitC a_x a_y a_z a_z) (unitC b_x b_y b_z b_x) (unitC b_x b_y b_z b_y) (unitC b_x b_y b_z b_z)) (facC (unitC a_x a_y a_z a_z) (unitC a_x a_y a_z a_x) (unitC a_x a_y a_z a_y) (unitC a_x a_y a_z a_z) (unitC b_x b_y b_z b_x) (unitC b_x b_y b_z b_y) (unitC b_x b_y b_z b_z)) v.x v.y v.z := fun v => rfl
  simp only [dF] at L2
  have mO : ok3 (mir3 ⟨unitC b_x b_y b_z b_x, unitC b_x b_y b_z b_y, unitC b_x b_y b_z b_z⟩ (fac3 ⟨unitC a_x a_y a_z a_x, unitC a_x a_y a_z a_y, unitC a_x a_y a_z a_z⟩ ⟨unitC b_x b_y b_z b_x, unitC b_x b_y b_z b_y, unitC b_x b_y b_z b_z⟩)) = okU (mir3 ⟨unitC b_x b_y b_z b_x, unitC b_x b_y b_z b_y, unitC b_x b_y b_z b_z⟩ ⟨facC (unitC a_x a_y a_z a_x) (unitC a_x a_y a_z a_x) (unitC a_x a_y a_z a_y) (unitC a_x a_y a_z a_z) (unitC b_x b_y b_z b_x) (unitC b_x b_y b_z b_y) (unitC b_x b_y b_z b_z), facC (unitC a_x a_y a_z a_y) (unitC a_x a_y a_z a_x) (unitC a_x a_y a_z a_y) (unitC a_x a_y a_z a_z) (unitC b_x b_y b_z b_x) (unitC b_x b_y b_z b_y) (unitC b_x b_y b_z b_z), facC (unitC a_x a_y a_z a_z) (unitC a_x a_y a_z a_x) (unitC a_x a_y a_z a_y) (unitC a_x a_y a_z a_z) (unitC b_x b_y b_z b_x) (unitC b_x b_y b_z b_y) (unitC b_x b_y b_z b_z)⟩).x (mir3 ⟨unitC b_x b_y b_z b_x, unitC b_x b_y b_z b_y, unitC b_x b_y b_z b_z⟩ ⟨facC (unitC a_x a_y a_z a_x) (unitC a_x a_y a_z a_x) (unitC a_x a_y a_z a_y) (unitC a_x a_y a_z a_z) (unitC b_x b_y b_z b_x) (unitC b_x b_y b_z b_y) (unitC b_x b_y b_z b_z), facC (unitC a_x a_y a_z a_y) (unitC a_x a_y a_z a_x) (unitC a_x a_y a_z a_y) (unitC a_x a_y a_z a_z) (unitC b_x b_y b_z b_x) (unitC b_x b_y b_z b_y) (unitC b_x b_y b_z b_z), facC (unitC a_x a_y a_z a_z) (unitC a_x a_y a_z a_x) (unitC a_x a_y a_z a_y) (unitC a_x a_y a_z a_z) (unitC b_x b_y b_z b_x) (unitC b_x b_y b_z b_y) (unitC b_x b_y b_z b_z)⟩).y (mir3 ⟨unitC b_x b_y b_z b_x, unitC b_x b_y b_z b_y, unitC b_x b_y b_z b_z⟩ ⟨facC (unitC a_x a_y a_z a_x) (unitC a_x a_y a_z a_x) (unitC a_x a_y a_z a_y) (unitC a_x a_y a_z a_z) (unitC b_x b_y b_z b_x) (unitC b_x b_y b_z b_y) (unitC b_x b_y b_z b_z), facC (unitC a_x a_y a_z a_y) (unitC a_x a_y a_z a_x) (unitC a_x a_y a_z a_y) (unitC a_x a_y a_z a_z) (unitC b_x b_y b_z b_x) (unitC b_x b_y b_z b_y) (unitC b_x b_y b_z b_z), facC (unitC a_x a_y a_z a_z) (unitC a_x a_y a_z a_x) (unitC a_x a_y a_z a_y) (unitC a_x a_y a_z a_z) (unitC b_x b_y b_z b_x) (unitC b_x b_y b_z b_y) (unitC b_x b_y b_z b_z)⟩).z := rfl
  generalize thr3 m_k m_c_r m_c_g m_c_b m_x ⟨unitC a_x a_y a_z a_x, unitC a_x a_y a_z a_y, unitC a_x a_y a_z a_z⟩ ⟨unitC b_x b_y b_z b_x, unitC b_x b_y b_z b_y, unitC b_x b_y b_z b_z⟩ u q w = T at *
  obtain ⟨v, s⟩ := T
  cases s
  · obtain ⟨hk, hv⟩ := L1 rfl
    try simp only at hv
    subst hv
    refine (run_t rfl).trans ((run_t (by rw [hk]; rfl)).trans rfl)
  · obtain ⟨⟨l1, l2⟩, l3, l4⟩ := L2 rfl
    try simp only at l1 l2 l3 l4
    refine (run_f rfl).trans ((run_f (decide_eq_false (by simp only; omega))).trans ((run_f (decide_eq_false (by simp only; omega))).trans ?_))
    refine run_guard (fun hk => ?_) (fun hk => ?_)
    · have hk := eq_of_beq hk
      refine run_guard (fun _ => rfl) (fun hd => ?_)
      have hd := of_decide_eq_false hd
      rcases l3 hk with h | ⟨ho, hv⟩
      · exact absurd h hd
      · refine (run_t (mO.symm.trans ho)).trans ?_
        try simp only at hv
        subst hv
        refine (run_t ?_).trans rfl
        show (_ == _ && (_ == _ && (_ == _ && true))) = true
        simp only [Bool.and_eq_true, beq_iff_eq, and_true]
        exact ⟨rfl, rfl, rfl⟩
    · have hk := ne_of_beq_false hk
      exact (run_t (decide_eq_true (l4 hk))).trans rfl

end Go.Sky
