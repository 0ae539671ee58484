/- Absolute values of floats, the floats of single points beside those of wide ones: plain facts and the law's walk (P31). -/
import Derived.Test.YtfghjlngllanoaaPtF
import Derived.Test.YtfghjlngllanoaaWideL
import Derived.Test.YtfghjlngllanoaaCycD
import Derived.WalkLawsBesides
import Derived.Laws.Externs
import Derived.Laws.ComplexArith
namespace Go.Proofs.Ytfghjlngllanoaa
open Go.ChangeShapes Go.WideShapes Go.ChangeAt Go.RowKit
set_option linter.unusedVariables false
set_option maxRecDepth 100000

theorem bits63 (x : Nat) : bits .andNot .u64 (x : Int) 9223372036854775808 = ((x % 9223372036854775808 : Nat) : Int) := by
  have e : (BitVec.ofInt IntKind.u64.bits (x : Int) &&& ~~~(BitVec.ofInt IntKind.u64.bits 9223372036854775808)).toNat = x % 9223372036854775808 := by
    have e1 : (~~~(BitVec.ofInt IntKind.u64.bits 9223372036854775808)).toNat = 2 ^ 63 - 1 := by decide +kernel
    rw [BitVec.toNat_and, e1, Nat.and_two_pow_sub_one_eq_mod]
    have e2 : (BitVec.ofInt IntKind.u64.bits (x : Int)).toNat = x % 18446744073709551616 := by
      rw [BitVec.ofInt_natCast, BitVec.toNat_ofNat]; rfl
    rw [e2]
    show x % 18446744073709551616 % 9223372036854775808 = _
    omega
  show IntKind.u64.wrap ((BitVec.ofInt IntKind.u64.bits (x : Int) &&& ~~~(BitVec.ofInt IntKind.u64.bits 9223372036854775808)).toNat : Int) = _
  rw [e]
  have h : x % 9223372036854775808 < 9223372036854775808 := Nat.mod_lt _ (by omega)
  generalize x % 9223372036854775808 = y at *
  show ((y : Int) % 18446744073709551616) = _
  omega
theorem f64bits_run (x : Nat) (w : World) : (callFunc 62 #[.float .f64 x]).run Try.prog w = .ok (.value (.int .u64 (x : Int))) w := by
  have := run_callFunc_extern (P := Try.prog) (e := Extern.MathFloatBits.float64bits) Try.func62 (by kernel_rfl) (by kernel_rfl) (by kernel_rfl) (by kernel_rfl) #[.float .f64 x] w
  rw [this]; rfl
theorem f64from_run (x : Nat) (w : World) : (callFunc 61 #[.int .u64 (x : Int)]).run Try.prog w = .ok (.value (.float .f64 x)) w := by
  have := run_callFunc_extern (P := Try.prog) (e := Extern.MathFloatBits.float64frombits) Try.func61 (by kernel_rfl) (by kernel_rfl) (by kernel_rfl) (by kernel_rfl) #[.int .u64 (x : Int)] w
  rw [this]; rfl
theorem mabs_any (x : Nat) (w : World) : Calls Try.prog 41 #[.float .f64 x] w fun e w' => e = .returned (.float .f64 (x % 9223372036854775808)) ∧ w = w' := by
  have h1 := f64bits_run x
  have h2 := f64from_run (x % 9223372036854775808)
  have h3 := bits63 x
  generalize x % 9223372036854775808 = y at *
  go_enter Try.func41, Try.ntmps41
  go_wp2
  go_ret; exact ⟨rfl, rfl⟩

theorem abs_val {x : Nat} {z : Int} (h : IVal Ieee.double x z) : IVal Ieee.double (x % 9223372036854775808) (z.natAbs : Int) := by
  obtain ⟨s, v, ⟨m, p, hr, hp, hv⟩, rfl⟩ := h
  rw [natAbs_sgn]
  have hr' : Ieee.double.read (x % 9223372036854775808) = .number false m p := by
    have hs : Ieee.double.signWeight = 9223372036854775808 := by decide +kernel
    unfold Ieee.Format.read at hr ⊢
    rw [hs] at hr ⊢
    have e1 : x % 9223372036854775808 % 9223372036854775808 = x % 9223372036854775808 := by omega
    have e2 : (x % 9223372036854775808 / 9223372036854775808 % 2 == 1) = false := by
      have : x % 9223372036854775808 / 9223372036854775808 = 0 := by omega
      rw [this]; rfl
    rw [e1, e2]
    clear e1 e2
    dsimp only at hr ⊢
    split at hr
    · rename_i hh
      rw [if_pos hh]
      injection hr with a b c
      subst b c; rfl
    · rename_i hh
      rw [if_neg hh]
      split at hr
      · rename_i hh2
        rw [if_pos hh2]
        injection hr with a b c
        subst b c; rfl
      · split at hr <;> cases hr
  exact IVal.ofNum (s := false) ⟨m, p, hr', hp, hv⟩
theorem widen_val {x : Nat} {a : Int} {K U K' U' n B : Nat} (hn : n = 925) (hB : B = 2 ^ n) (hu : RU .f32 K U) (hu' : RU .f64 K' U') (h : IVal Ieee.single x a) (hb : a.natAbs ≤ 2 ^ 13 * (4611686018427387904 * U)) (hx : ∃ E, KB .f32 E x ∧ E ≤ 60) :
    ∃ b, IVal Ieee.double (widen x) b ∧ -(16777216 * (U' : Int)) ≤ b - a * (B : Int) ∧ b - a * (B : Int) ≤ 16777216 * (U' : Int) := by
  obtain ⟨E, h0, hE⟩ := hx
  obtain ⟨w1, _⟩ := widen_ok h0 hE
  obtain ⟨s, v, ⟨m, p, hr, hp, hv⟩, rfl⟩ := h
  rw [natAbs_sgn] at hb
  have l1 : Ieee.single.leastPlace = -149 := lp_single
  have l2 : Ieee.double.leastPlace = -1074 := lp_double
  have hK : K = 87 := by have := hu.1; rw [show oneU FloatKind.f32.format = oneU Ieee.single from rfl, oneU_single] at this; omega
  have hK' : K' = 1012 := by have := hu'.1; rw [show oneU FloatKind.f64.format = oneU Ieee.double from rfl, oneU_double] at this; omega
  rw [l1] at hp hv
  have hV : m * 2 ^ (p - Ieee.double.leastPlace + (0 : Nat)).toNat = v * B := by
    rw [l2]
    have e1 : (p - (-1074) + (0 : Nat)).toNat = (p - (-149)).toNat + n := by omega
    rw [e1, Nat.pow_add, ← Nat.mul_assoc, hv, hB]
  have hUB : U * B = U' := by
    rw [hu.2, hu'.2, hB, ← Nat.pow_add]
    congr 1; omega
  have hV2 : v * B ≤ 2 ^ (75 + K' + 0) := by
    rw [Nat.add_zero, hu'.pow, ← hUB]
    have := Nat.mul_le_mul_right B hb
    have e : 2 ^ 13 * (4611686018427387904 * U) * B = 2 ^ 75 * (U * B) := by
      have : (2 : Nat) ^ 75 = 2 ^ 13 * 4611686018427387904 := rfl
      rw [this]; grind
    omega
  obtain ⟨w, hw, hw1, hw2, hw3⟩ := nearest_num Ieee.double s m p 0 (v * B) (75 + K') (by omega) hV.symm hV2 (by show 75 + K' - 52 + 3 < 2 ^ 11; omega)
  have hd : (FloatKind.f64.decode (FloatKind.f64.encode (.number s m p))).isInfinity = false := by
    obtain ⟨m', p', hr', _⟩ := hw
    show (FloatKind.f64.format.read (FloatKind.f64.format.nearest s m p)).isInfinity = false
    rw [show FloatKind.f64.format.nearest s m p = Ieee.double.nearest s m p from rfl, show FloatKind.f64.format.read _ = Ieee.double.read _ from rfl, hr']; rfl
  have hs : FloatKind.f32.decode x = .number s m p := hr
  have hwd : widen x = Ieee.double.nearest s m p := by
    unfold widen floatToFloatBits
    rw [if_neg (by decide), hs]
    simp only [hd, Bool.false_eq_true, if_false, Option.getD_some]
    rfl
  rw [hwd]
  refine ⟨_, IVal.ofNum hw, ?_⟩
  have e1 : 75 + K' - Ieee.double.fractionBits + 0 = 23 + K' := by show 75 + K' - 52 + 0 = _; omega
  rw [e1, hu'.pow, Nat.pow_zero, Nat.mul_one] at hw2 hw3
  have p23 : (2 : Nat) ^ 23 = 8388608 := rfl
  rw [p23] at hw2 hw3
  clear hd hs hwd hw w1 hr hp hv hV hV2 hb h0 hu hu' hK hK' e1 p23 hUB hw1
  have e2 : ((v * B : Nat) : Int) = (v : Int) * B := by simp
  cases s
  · simp only [Bool.false_eq_true, if_false]
    rw [← e2]
    generalize v * B = vb at *
    omega
  · simp only [if_true]
    rw [Int.neg_mul, ← e2]
    generalize v * B = vb at *
    omega

theorem cent_rv : rv .f64 4576918229304087675 = 46116860184273880 := by decide +kernel
/-- one part of a single point beside that of the wide one -/
theorem part_near {x y : Nat} {a b s t : Int} {K U K' U' n B : Nat} (hn : n = 925) (hB : B = 2 ^ n) (hUB : U * B = U') (hu : RU .f32 K U) (hu' : RU .f64 K' U')
    (hx : IVal Ieee.single x a) (hy : IVal Ieee.double y b) (hk : ∃ E, KB .f32 E x ∧ E ≤ 60) (ha : -(40 * (ek .f32 * U : Nat) : Int) ≤ a - s * U ∧ a - s * U ≤ 40 * (ek .f32 * U : Nat))
    (hb : -(40 * (ek .f64 * U' : Nat) : Int) ≤ b - t * U' ∧ b - t * U' ≤ 40 * (ek .f64 * U' : Nat)) (hs : s.natAbs ≤ 36893488147419103232000) (hst : -1000000000000000 ≤ s - t ∧ s - t ≤ 1000000000000000) :
    ∃ d, floatBits .sub .f64 (widen x) y = some d ∧ FloatKind.f64.format.order (d % 9223372036854775808) 4576918229304087675 = some .lt := by
  have he : ek .f32 = 562949953421312 := rfl
  have he' : ek .f64 = 1048576 := rfl
  rw [he] at ha; rw [he'] at hb
  clear he he'
  have hsU : (s * U).natAbs ≤ 36893488147419103232000 * U := by
    rw [Int.natAbs_mul, Int.natAbs_natCast]; exact Nat.mul_le_mul_right U hs
  have haa : a.natAbs ≤ 2 ^ 13 * (4611686018427387904 * U) := by
    have e : (2 : Nat) ^ 13 = 8192 := rfl
    rw [e]
    generalize s * (U : Int) = sU at *
    clear hs hst hb hB hUB
    have a1 : sU ≤ 36893488147419103232000 * (U : Int) := by omega
    have a2 : -(36893488147419103232000 * (U : Int)) ≤ sU := by omega
    clear hsU
    omega
  obtain ⟨z, z1, z2, z3⟩ := widen_val hn hB hu hu' hx haa hk
  have hB1 : (a - s * U) * (B : Int) ≤ (40 * (562949953421312 * U : Nat) : Int) * B := Int.mul_le_mul_of_nonneg_right ha.2 (by omega)
  have hB2 : -(40 * (562949953421312 * U : Nat) : Int) * B ≤ (a - s * U) * (B : Int) := Int.mul_le_mul_of_nonneg_right ha.1 (by omega)
  have hUB' : (U : Int) * B = U' := by rw [← hUB]; simp
  have e1 : (a - s * U) * (B : Int) = a * B - s * U' := by rw [← hUB', Int.sub_mul, Int.mul_assoc]
  have e2 : (40 * (562949953421312 * U : Nat) : Int) * B = 22517998136852480 * (U' : Int) := by rw [← hUB']; simp only [Int.natCast_mul]; grind
  rw [e1, e2] at hB1
  rw [e1, Int.neg_mul, e2] at hB2
  have h1 : (s - t) * (U' : Int) ≤ 1000000000000000 * U' := Int.mul_le_mul_of_nonneg_right hst.2 (by omega)
  have h2 : -1000000000000000 * (U' : Int) ≤ (s - t) * (U' : Int) := Int.mul_le_mul_of_nonneg_right hst.1 (by omega)
  have e3 : (s - t) * (U' : Int) = s * U' - t * U' := by rw [Int.sub_mul]
  rw [e3] at h1 h2
  clear e1 e2 e3 hsU haa ha hs hst hUB' hUB hx hk
  have hd : -(23600000000000000 * (U' : Int)) ≤ z - b ∧ z - b ≤ 23600000000000000 * (U' : Int) := by
    generalize s * (U' : Int) = sU at *
    generalize t * (U' : Int) = tU at *
    generalize a * (B : Int) = aB at *
    clear hB
    omega
  have hK : K' = 1012 := by have := hu'.1; rw [show oneU FloatKind.f64.format = oneU Ieee.double from rfl, oneU_double] at this; omega
  obtain ⟨r, c, k1, k2, k3, k4⟩ := sub_ok z1 hy (55 + K') (by rw [hu'.pow]; have : (2 : Nat) ^ 55 = 36028797018963968 := rfl; rw [this]; omega) (by show 55 + K' - 52 + 3 < 2 ^ 11; omega)
  refine ⟨r, k1, ?_⟩
  have hC : IVal Ieee.double 4576918229304087675 (46116860184273880 * U') := by
    have := rv_ok (k := .f64) (x := 4576918229304087675) hu' (by decide +kernel)
    rw [cent_rv] at this; exact this
  have ho := order_val' (abs_val k2) hC
  show Ieee.double.order _ _ = _
  rw [ho]
  have e5 : 55 + K' - Ieee.double.fractionBits = 3 + K' := by show 55 + K' - 52 = _; omega
  rw [e5, hu'.pow] at k4
  have p3 : (2 : Nat) ^ 3 = 8 := rfl
  rw [p3] at k4
  have hp := hu'.pos
  have hlt : ((c.natAbs : Nat) : Int) < 46116860184273880 * (U' : Int) := by
    clear hB hB1 hB2 h1 h2 z2 z3 hb k3 e5 p3 hK
    omega
  rw [Std.compare_eq_lt.2 hlt]
theorem single_near {f : Nat → Int} (hf : Small f) :
    ∃ re im, cSumBits .sub .f64 (widen (pointP .f32 f 8).1) (widen (pointP .f32 f 8).2) (pointP .f64 f 8).1 (pointP .f64 f 8).2 = some (re, im)
      ∧ FloatKind.f64.format.order (re % 9223372036854775808) 4576918229304087675 = some .lt ∧ FloatKind.f64.format.order (im % 9223372036854775808) 4576918229304087675 = some .lt := by
  obtain ⟨K, U, hu⟩ := ru_ex .f32
  obtain ⟨K', U', hu'⟩ := ru_ex .f64
  obtain ⟨n, hn⟩ : ∃ n, n = 925 := ⟨_, rfl⟩
  obtain ⟨B, hB⟩ : ∃ B, B = 2 ^ n := ⟨_, rfl⟩
  have hUB : U * B = U' := by
    rw [hu.2, hu'.2, hB, ← Nat.pow_add]
    have hK : K = 87 := by have := hu.1; rw [show oneU FloatKind.f32.format = oneU Ieee.single from rfl, oneU_single] at this; omega
    have hK' : K' = 1012 := by have := hu'.1; rw [show oneU FloatKind.f64.format = oneU Ieee.double from rfl, oneU_double] at this; omega
    congr 1; omega
  obtain ⟨⟨z, z1, z2, z3⟩, ⟨y, y1, y2, y3⟩⟩ := point_err hu hf
  obtain ⟨⟨z', z1', z2', z3'⟩, ⟨y', y1', y2', y3'⟩⟩ := point_err hu' hf
  have hc := rv_check .f32
  simp only [Bool.and_eq_true, decide_eq_true_eq] at hc
  have s1 := partS_bd (k := .f32) hf (fun i hi => (hc i hi).1.2) 8 (by omega)
  have s2 := partS_bd (k := .f32) hf (fun i hi => (hc i hi).2) 8 (by omega)
  have kb := pointP_ok .f32 (f := f) (fun j hj => by have := hf j hj; omega) 8 (by omega)
  have a0 := hf 0 (by omega); have a1 := hf 1 (by omega); have a2 := hf 2 (by omega); have a3 := hf 3 (by omega)
  have a4 := hf 4 (by omega); have a5 := hf 5 (by omega); have a6 := hf 6 (by omega); have a7 := hf 7 (by omega)
  obtain ⟨d, d1, d2⟩ := part_near hn hB hUB hu hu' z1 z1' ⟨_, kb.1, by omega⟩ ⟨z2, z3⟩ ⟨z2', z3'⟩ (Nat.le_trans s1 (by decide)) (by rw [S_re, S_re32]; clear z1 z2 z3 y1 y2 y3 z1' z2' z3' y1' y2' y3' hc s1 s2 kb hB hUB hf; omega)
  obtain ⟨e, e1, e2⟩ := part_near hn hB hUB hu hu' y1 y1' ⟨_, kb.2, by omega⟩ ⟨y2, y3⟩ ⟨y2', y3'⟩ (Nat.le_trans s2 (by decide)) (by rw [S_im, S_im32]; clear z1 z2 z3 y1 y2 y3 z1' z2' z3' y1' y2' y3' hc s1 s2 kb hB hUB hf; omega)
  exact ⟨d, e, by simp [cSumBits, d1, e1], d2, e2⟩

theorem iPointsNear_lt (a b c d re im m : Nat) (h : cSumBits .sub .f64 a b c d = some (re, im)) (h1 : FloatKind.f64.format.order (re % 9223372036854775808) m = some .lt) (h2 : FloatKind.f64.format.order (im % 9223372036854775808) m = some .lt) (w : World) :
    Calls Try.prog 17 #[.complex .f64 a b, .complex .f64 c d, .float .f64 m] w fun e w' => e = .returned (.bool true) ∧ w = w' := by
  have s1 : ∀ t w, (binOp .sub t (.complex .f64 a b) (.complex .f64 c d)).run Try.prog w = .ok (.complex .f64 re im) w := fun t w => run_complex_sum w .sub (.inr rfl) t .f64 a b c d re im h
  clear h
  go_enter Try.func17, Try.ntmps17
  go_wp2_with fail
  refine (mabs_any re _).mono ?_
  rintro e w' ⟨rfl, rfl⟩
  generalize re % 9223372036854775808 = r1 at *
  go_wp2_with fail
  refine (mabs_any im _).mono ?_
  rintro e w' ⟨rfl, rfl⟩
  generalize im % 9223372036854775808 = r2 at *
  go_wp2
  go_ret; exact ⟨rfl, rfl⟩

end Go.Proofs.Ytfghjlngllanoaa
