/- Division of 128 bits by 64. -/
import Derived.Test.YtfbakgcemnkcpaaQSkyRoot
import Derived.Test.YtfbakgcemnkcpaaQSkyVecL
set_option linter.unusedSimpArgs false
set_option linter.unusedVariables false
namespace Go.Sky

theorem dig_nonneg {yn1 yn0 un1 q rh : Int} (h1 : 2147483648 ≤ yn1 ∧ yn1 ≤ 4294967295) (h0 : 0 ≤ yn0 ∧ yn0 ≤ 4294967295) (hu : 0 ≤ un1 ∧ un1 ≤ 4294967295) (hr : 0 ≤ rh ∧ rh ≤ 4294967295) (hq : 0 ≤ q)
    (ha : q * yn1 + rh < yn1 * 4294967296 + yn0) : 0 ≤ ((q * yn1 + rh) * 4294967296 + un1) / (yn1 * 4294967296 + yn0) := by
  have : 0 ≤ q * yn1 := Int.mul_nonneg hq (by omega)
  exact Int.ediv_nonneg (by omega) (by omega)

theorem dig_lt {yn1 yn0 un1 q rh : Int} (h1 : 2147483648 ≤ yn1 ∧ yn1 ≤ 4294967295) (h0 : 0 ≤ yn0 ∧ yn0 ≤ 4294967295) (hu : 0 ≤ un1 ∧ un1 ≤ 4294967295) (hr : 0 ≤ rh ∧ rh ≤ 4294967295) (hq : 0 ≤ q)
    (ha : q * yn1 + rh < yn1 * 4294967296 + yn0) : ((q * yn1 + rh) * 4294967296 + un1) / (yn1 * 4294967296 + yn0) < 4294967296 := by
  apply Int.ediv_lt_of_lt_mul (by omega)
  generalize q * yn1 = a at *
  omega

theorem dig_q {yn1 yn0 un1 q rh : Int} (h1 : 2147483648 ≤ yn1 ∧ yn1 ≤ 4294967295) (h0 : 0 ≤ yn0 ∧ yn0 ≤ 4294967295) (hu : 0 ≤ un1 ∧ un1 ≤ 4294967295) (hr : 0 ≤ rh ∧ rh ≤ 4294967295) (hq : 0 ≤ q)
    (ha : q * yn1 + rh < yn1 * 4294967296 + yn0) : q ≤ 4294967297 := by
  have : q * yn1 < 4294967298 * yn1 := by omega
  have := Int.lt_of_mul_lt_mul_right this (by omega)
  omega

theorem dig_more {yn1 yn0 un1 q rh : Int} (h1 : 2147483648 ≤ yn1 ∧ yn1 ≤ 4294967295) (h0 : 0 ≤ yn0 ∧ yn0 ≤ 4294967295) (hu : 0 ≤ un1 ∧ un1 ≤ 4294967295) (hr : 0 ≤ rh ∧ rh ≤ 4294967295) (hq : 0 ≤ q)
    (ha : q * yn1 + rh < yn1 * 4294967296 + yn0) (ht : q * yn0 > 4294967296 * rh + un1) : ((q * yn1 + rh) * 4294967296 + un1) / (yn1 * 4294967296 + yn0) < q := by
  apply Int.ediv_lt_of_lt_mul (by omega)
  have e : q * (yn1 * 4294967296 + yn0) = q * yn1 * 4294967296 + q * yn0 := by rw [Int.mul_add, Int.mul_assoc]
  rw [e]
  omega

theorem dig_done {yn1 yn0 un1 q rh : Int} (h1 : 2147483648 ≤ yn1 ∧ yn1 ≤ 4294967295) (h0 : 0 ≤ yn0 ∧ yn0 ≤ 4294967295) (hu : 0 ≤ un1 ∧ un1 ≤ 4294967295) (hr : 0 ≤ rh ∧ rh ≤ 4294967295) (hq : 0 ≤ q)
    (ha : q * yn1 + rh < yn1 * 4294967296 + yn0) (ht : ¬ (q * yn0 > 4294967296 * rh + un1)) : q ≤ ((q * yn1 + rh) * 4294967296 + un1) / (yn1 * 4294967296 + yn0) := by
  apply Int.le_ediv_of_mul_le (by omega)
  have e : q * (yn1 * 4294967296 + yn0) = q * yn1 * 4294967296 + q * yn0 := by rw [Int.mul_add, Int.mul_assoc]
  rw [e]
  omega

theorem dig_break {yn1 yn0 un1 q rh : Int} (h1 : 2147483648 ≤ yn1 ∧ yn1 ≤ 4294967295) (h0 : 0 ≤ yn0 ∧ yn0 ≤ 4294967295) (hu : 0 ≤ un1 ∧ un1 ≤ 4294967295) (hr : 0 ≤ rh ∧ rh ≤ 4294967295) (hq : 0 ≤ q)
    (ha : q * yn1 + rh < yn1 * 4294967296 + yn0) (ht : rh + yn1 ≥ 4294967296) (h : 1 ≤ q) : q - 1 ≤ ((q * yn1 + rh) * 4294967296 + un1) / (yn1 * 4294967296 + yn0) := by
  have hq2 := dig_q h1 h0 hu hr hq ha
  apply Int.le_ediv_of_mul_le (by omega)
  have e : (q - 1) * (yn1 * 4294967296 + yn0) = q * yn1 * 4294967296 - yn1 * 4294967296 + (q - 1) * yn0 := by rw [Int.mul_add, Int.sub_mul, Int.one_mul, Int.mul_assoc]
  have e2 : (q - 1) * yn0 ≤ 4294967296 * 4294967295 := Int.mul_le_mul (by omega) (by omega) (by omega) (by omega)
  rw [e]
  omega

theorem bits_mask {x : Int} (h : 0 ≤ x ∧ x ≤ 18446744073709551615) : Go.bits .and .u64 x 4294967295 = x % 4294967296 := by
  obtain ⟨n, rfl⟩ := Int.eq_ofNat_of_zero_le h.1
  have hb : n < 2 ^ 64 := by omega
  show IntKind.u64.wrap ((BitVec.ofInt 64 (n : Int) &&& BitVec.ofInt 64 4294967295).toNat : Int) = _
  have e : (BitVec.ofInt 64 (n : Int) &&& BitVec.ofInt 64 4294967295).toNat = n % 4294967296 := by
    rw [BitVec.toNat_and]
    have e1 : (BitVec.ofInt 64 (n : Int)).toNat = n := by rw [BitVec.toNat_ofInt]; omega
    have e2 : (BitVec.ofInt 64 4294967295).toNat = 2 ^ 32 - 1 := by decide
    rw [e1, e2, Nat.and_two_pow_sub_one_eq_mod]
  rw [e, wrap_u64_id (by omega)]
  omega

theorem bits_or {s : Nat} {a b : Int} (ha : 0 ≤ a) (hb : 0 ≤ b ∧ b < 2 ^ s) (h : a * 2 ^ s + b ≤ 18446744073709551615) : Go.bits .or .u64 (a * 2 ^ s) b = a * 2 ^ s + b := by
  obtain ⟨m, rfl⟩ := Int.eq_ofNat_of_zero_le ha
  obtain ⟨n, rfl⟩ := Int.eq_ofNat_of_zero_le hb.1
  have hn : n < 2 ^ s := by have := hb.2; exact_mod_cast this
  have ec : ((m : Int) * 2 ^ s) = ((m * 2 ^ s : Nat) : Int) := by push_cast; rfl
  rw [ec] at h ⊢
  have hs : m * 2 ^ s + n ≤ 18446744073709551615 := by omega
  show IntKind.u64.wrap ((BitVec.ofInt 64 ((m * 2 ^ s : Nat) : Int) ||| BitVec.ofInt 64 (n : Int)).toNat : Int) = _
  have e : (BitVec.ofInt 64 ((m * 2 ^ s : Nat) : Int) ||| BitVec.ofInt 64 (n : Int)).toNat = m * 2 ^ s + n := by
    rw [BitVec.toNat_or]
    have e1 : (BitVec.ofInt 64 ((m * 2 ^ s : Nat) : Int)).toNat = m * 2 ^ s := by rw [BitVec.toNat_ofInt]; omega
    have e2 : (BitVec.ofInt 64 (n : Int)).toNat = n := by rw [BitVec.toNat_ofInt]; omega
    rw [e1, e2, Nat.mul_comm m, Nat.two_pow_add_eq_or_of_lt hn]
  rw [e, wrap_u64_id (by omega)]
  push_cast; rfl

/-- Two digits, one behind the other. -/
theorem knuth {U Y T : Int} (hU : 0 ≤ U ∧ U < Y) (hT : 0 ≤ T) :
    ((U * 4294967296 + T / 4294967296) / Y) * 4294967296 + (((U * 4294967296 + T / 4294967296) % Y) * 4294967296 + T % 4294967296) / Y = (U * 18446744073709551616 + T) / Y ∧
    (((U * 4294967296 + T / 4294967296) % Y) * 4294967296 + T % 4294967296) % Y = (U * 18446744073709551616 + T) % Y := by
  have hY : 0 < Y := by omega
  have e1 := Int.mul_ediv_add_emod (U * 4294967296 + T / 4294967296) Y
  generalize (U * 4294967296 + T / 4294967296) / Y = q1 at *
  generalize (U * 4294967296 + T / 4294967296) % Y = r1 at *
  have e : U * 18446744073709551616 + T = (r1 * 4294967296 + T % 4294967296) + Y * (q1 * 4294967296) := by
    have : Y * (q1 * 4294967296) = Y * q1 * 4294967296 := by rw [Int.mul_assoc]
    omega
  rw [e, Int.add_mul_ediv_left _ _ (by omega), Int.add_mul_emod_self_left]
  omega

/-- What a loop asks at its begin. -/
theorem digit_ok {A Y u : Int} (hA : 0 ≤ A ∧ A < Y) (hY : 9223372036854775808 ≤ Y ∧ Y ≤ 18446744073709551615) (hu : 0 ≤ u ∧ u ≤ 4294967295) :
    (A / (Y / 4294967296) * (Y / 4294967296) + A % (Y / 4294967296) = A) ∧ Y / 4294967296 * 4294967296 + Y % 4294967296 = Y ∧ (2147483648 ≤ Y / 4294967296 ∧ Y / 4294967296 ≤ 4294967295) ∧
    0 ≤ A / (Y / 4294967296) ∧ A / (Y / 4294967296) ≤ 18446744073709551615 ∧ 0 ≤ A % (Y / 4294967296) ∧ A % (Y / 4294967296) ≤ 4294967295 ∧ (A * 4294967296 + u) / Y ≤ A / (Y / 4294967296) ∧
    0 ≤ A / (Y / 4294967296) * (Y / 4294967296) ∧ A / (Y / 4294967296) * (Y / 4294967296) ≤ A := by
  have hd : 2147483648 ≤ Y / 4294967296 ∧ Y / 4294967296 ≤ 4294967295 := by omega
  have e2 : Y / 4294967296 * 4294967296 + Y % 4294967296 = Y := by omega
  have e1 := Int.mul_ediv_add_emod A (Y / 4294967296)
  rw [Int.mul_comm] at e1
  have m0 := Int.emod_nonneg A (show Y / 4294967296 ≠ 0 by omega)
  have m1 := Int.emod_lt_of_pos A (show 0 < Y / 4294967296 by omega)
  have q0 : 0 ≤ A / (Y / 4294967296) := Int.ediv_nonneg (by omega) (by omega)
  have p0 : 0 ≤ A / (Y / 4294967296) * (Y / 4294967296) := Int.mul_nonneg q0 (by omega)
  have q1 : A / (Y / 4294967296) ≤ A := by
    have : A / (Y / 4294967296) * 1 ≤ A / (Y / 4294967296) * (Y / 4294967296) := Int.mul_le_mul_of_nonneg_left (by omega) q0
    omega
  refine ⟨e1, e2, hd, q0, by omega, m0, by omega, ?_, p0, by omega⟩
  apply Int.le_ediv_of_mul_le (by omega)
  -- t * Y ≤ N, so t * yn1 * 2^32 ≤ A * 2^32 + u
  have t1 := Int.ediv_mul_le (A * 4294967296 + u) (show Y ≠ 0 by omega)
  have t0 : 0 ≤ (A * 4294967296 + u) / Y := Int.ediv_nonneg (by omega) (by omega)
  generalize (A * 4294967296 + u) / Y = t at *
  have t2 : t * (Y / 4294967296 * 4294967296) ≤ t * Y := Int.mul_le_mul_of_nonneg_left (by omega) t0
  rw [← Int.mul_assoc] at t2
  omega

theorem shift_facts {hi lo y : Int} (h0 : 0 ≤ hi) (h1 : hi < y) (h2 : y ≤ 18446744073709551615) (h3 : 0 ≤ lo ∧ lo ≤ 18446744073709551615) :
    ∃ s : Nat, s ≤ 63 ∧ IntKind.u64.wrap (64 - ((Lib.bitLen y.toNat : Nat) : Int)) = (s : Int) ∧ IntKind.u64.wrap (64 - (s : Int)) = ((64 - s : Nat) : Int) ∧
      IntKind.u64.wrap (y * 2 ^ s) = y * 2 ^ s ∧ (9223372036854775808 ≤ y * 2 ^ s ∧ y * 2 ^ s ≤ 18446744073709551615) ∧ IntKind.u64.wrap (hi * 2 ^ s) = hi * 2 ^ s ∧
      Go.bits .or .u64 (hi * 2 ^ s) (lo / 2 ^ (64 - s)) = hi * 2 ^ s + lo / 2 ^ (64 - s) ∧ (0 ≤ hi * 2 ^ s + lo / 2 ^ (64 - s) ∧ hi * 2 ^ s + lo / 2 ^ (64 - s) < y * 2 ^ s) ∧
      (hi * 2 ^ s + lo / 2 ^ (64 - s)) * 18446744073709551616 + IntKind.u64.wrap (lo * 2 ^ s) = (hi * 18446744073709551616 + lo) * 2 ^ s := by
  have hy0 : 0 < y := by omega
  obtain ⟨b1, b2, b3⟩ := Lib.bitLenAux_bounds 64 y.toNat (by omega) (by omega)
  have b4 : Lib.bitLen y.toNat ≤ 64 := Go.Proofs.Any.bitLen_le64 y (by omega) h2
  change 1 ≤ Lib.bitLen y.toNat at b1
  change 2 ^ (Lib.bitLen y.toNat - 1) ≤ y.toNat at b2
  change y.toNat < 2 ^ Lib.bitLen y.toNat at b3
  generalize Lib.bitLen y.toNat = b at *
  obtain ⟨n, rfl⟩ := Int.eq_ofNat_of_zero_le (show 0 ≤ y by omega)
  simp only [Int.toNat_natCast] at b2 b3
  refine ⟨64 - b, by omega, by rw [wrap_u64_id (by omega)]; omega, by rw [wrap_u64_id (by omega)]; omega, ?_⟩
  have hb : 64 - (64 - b) = b := by omega
  rw [hb]
  have hSR : (2 : Int) ^ (64 - b) * 2 ^ b = 18446744073709551616 := by rw [← Int.pow_add, show 64 - b + b = 64 by omega]; rfl
  have hS : (0 : Int) < 2 ^ (64 - b) := Int.pow_pos (by decide)
  have hR : (0 : Int) < 2 ^ b := Int.pow_pos (by decide)
  have c3 : (n : Int) < 2 ^ b := by exact_mod_cast b3
  have c2 : (2 : Int) ^ b ≤ 2 * n := by
    have : (2 : Nat) ^ b ≤ 2 * n := by
      have e : 2 ^ b = 2 * 2 ^ (b - 1) := by rw [← Nat.pow_succ']; congr 1; omega
      omega
    exact_mod_cast this
  generalize hSe : (2 : Int) ^ (64 - b) = S at *
  have hRb : ∃ r : Nat, r = b := ⟨b, rfl⟩
  generalize hRe : (2 : Int) ^ b = R at *
  have y1 : (n : Int) * S < R * S := Int.mul_lt_mul_of_pos_right c3 hS
  have y2 : R * S ≤ 2 * n * S := Int.mul_le_mul_of_nonneg_right c2 (by omega)
  rw [Int.mul_comm R S, hSR] at y1 y2
  rw [Int.mul_assoc] at y2
  have z1 : hi * S ≤ (n - 1) * S := Int.mul_le_mul_of_nonneg_right (by omega) (by omega)
  rw [Int.sub_mul, Int.one_mul] at z1
  have z0 : 0 ≤ hi * S := Int.mul_nonneg h0 (by omega)
  have l1 := Int.mul_ediv_add_emod lo R
  have l2 := Int.emod_nonneg lo (show R ≠ 0 by omega)
  have l3 := Int.emod_lt_of_pos lo hR
  have l0 : 0 ≤ lo / R := Int.ediv_nonneg h3.1 (by omega)
  have l4 : lo / R < S := by apply Int.ediv_lt_of_lt_mul hR; rw [hSR]; omega
  have l5 : lo * S = (lo / R) * 18446744073709551616 + (lo % R) * S := by rw [← hSR]; conv => lhs; rw [← l1]
                                                                          grind
  have l6 : (lo % R) * S < R * S := Int.mul_lt_mul_of_pos_right l3 hS
  rw [Int.mul_comm R S, hSR] at l6
  have l7 : 0 ≤ (lo % R) * S := Int.mul_nonneg l2 (by omega)
  have eT : IntKind.u64.wrap (lo * S) = (lo % R) * S := by rw [wrap_u64, l5]; omega
  refine ⟨wrap_u64_id (by omega), ⟨by omega, by omega⟩, wrap_u64_id (by omega), ?_, ⟨by omega, by omega⟩, ?_⟩
  · have := bits_or (s := 64 - b) (a := hi) (b := lo / R) h0 ⟨l0, by rw [hSe]; exact l4⟩ (by rw [hSe]; omega)
    rw [hSe] at this
    exact this
  · rw [eT, Int.add_mul, Int.add_mul, l5]
    have : hi * S * 18446744073709551616 = hi * 18446744073709551616 * S := by rw [Int.mul_assoc, Int.mul_comm S, ← Int.mul_assoc]
    omega

end Go.Sky
