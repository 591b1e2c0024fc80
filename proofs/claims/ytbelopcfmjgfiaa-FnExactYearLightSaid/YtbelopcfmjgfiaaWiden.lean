/- 'float64(x)' of a float32: what it comes to. No condition. -/
import Derived.Test.YtbelopcfmjgfiaaSame
import Derived.Laws.FloatArith
import Derived.Laws.NewFold
namespace Go.Proofs.Ytbelopcfmjgfiaa
open Go Go.RowKit
theorem cut0 (neg : Bool) (n : Nat) : Ieee.Toward.even.cut neg n 0 = n := by
  have e : min 0 (n.log2 + 2) = 0 := Nat.zero_min _
  have e1 : (1:Nat) <<< 0 = 1 := rfl
  unfold Ieee.Toward.cut
  simp only [e, e1, Nat.div_one, Nat.mod_one]
  simp
theorem d_hi : Ieee.double.infRung = 9218868437227405312 := by decide
theorem d_hs : Ieee.double.signWeight = 9223372036854775808 := by decide
theorem d_hl : Ieee.double.leastPlace = -1074 := by decide
theorem d_hb : Ieee.double.binade = 4503599627370496 := by decide
theorem widen_num (m l : Nat) (hl : l < 24) (h3 : m < 2 ^ (l + 1)) (a : Nat) (h5 : a ≤ 1149) (B I : Nat) (hB : B = 2 ^ 52) (hI : I = 2047 * B) : min (a * B + m <<< (52 - l)) I < I := by
  have h8 : l + 1 + (52 - l) = 53 := by omega
  have h9 : (2 : Nat) ^ (l + 1) * 2 ^ (52 - l) = 2 * B := by rw [← Nat.pow_add, h8, hB]
  have h4 : m <<< (52 - l) < 2 * B := by
    rw [Nat.shiftLeft_eq, ← h9]
    exact Nat.mul_lt_mul_of_pos_right h3 (Nat.two_pow_pos _)
  have h6 : a * B ≤ 1149 * B := Nat.mul_le_mul_right _ h5
  have hp : 0 < B := by rw [hB]; exact Nat.two_pow_pos _
  clear hB h9
  omega
theorem widen_word {m : Nat} {p : Int} (neg : Bool) (hm : m < 16777216) (h0 : -149 ≤ p) (h1 : p ≤ 104) :
    ∃ r, r < Ieee.double.infRung ∧ Ieee.double.nearest neg m p = Ieee.double.word neg r := by
  unfold Ieee.Format.nearest
  by_cases hz : m = 0
  · exact ⟨0, by rw [d_hi]; exact Nat.zero_lt_succ _, by rw [if_pos hz]⟩
  · have hlog : m.log2 < 24 := (Nat.log2_lt hz).2 (by simpa using hm)
    have hf : Ieee.double.fractionBits = 52 := rfl
    have hmax : max (p + (m.log2 : Int) - ((52 : Nat) : Int)) (-1074) = p + m.log2 - 52 := by omega
    rw [if_neg hz]
    simp only [hf, d_hl, hmax]
    have e1 : (p - (p + (m.log2 : Int) - 52)).toNat = 52 - m.log2 := by omega
    have e2 : (p + (m.log2 : Int) - 52 - p).toNat = 0 := by omega
    rw [e1, e2, cut0]
    exact ⟨_, widen_num m m.log2 hlog Nat.lt_log2_self _ (by omega) _ _ rfl rfl, rfl⟩
theorem read_word_gen (S r : Nat) (neg : Bool) (hr : r < S) : ((if neg then S + r else r) / S % 2 == 1) = neg ∧ (if neg then S + r else r) % S = r := by
  have hS : 0 < S := by omega
  cases neg
  · simp only [Bool.false_eq_true, if_false]
    rw [Nat.div_eq_of_lt hr, Nat.mod_eq_of_lt hr]; exact ⟨rfl, rfl⟩
  · simp only [if_true]
    rw [Nat.add_div_left _ hS, Nat.div_eq_of_lt hr, Nat.add_mod_left, Nat.mod_eq_of_lt hr]; exact ⟨rfl, rfl⟩
theorem read_word {r : Nat} (neg : Bool) (h : r < Ieee.double.infRung) : ∃ m e, Ieee.double.read (Ieee.double.word neg r) = .number neg m e := by
  have hr : r < Ieee.double.signWeight := by rw [d_hs]; rw [d_hi] at h; exact Nat.lt_trans h (by decide)
  obtain ⟨e1, e2⟩ := read_word_gen Ieee.double.signWeight r neg hr
  unfold Ieee.Format.read Ieee.Format.word
  simp only [e1, e2]
  split
  · exact ⟨_, _, rfl⟩
  · exact ⟨_, _, rfl⟩
/-- What a single's word stands for. -/
theorem read32 (x : Nat) : (∃ s t, FloatKind.f32.decode x = .nan s t) ∨ (∃ s, FloatKind.f32.decode x = .infinity s) ∨ ∃ s m p, FloatKind.f32.decode x = .number s m p ∧ m < 16777216 ∧ -149 ≤ p ∧ p ≤ 104 := by
  have hS : Ieee.single.signWeight = 2147483648 := by decide
  have hI : Ieee.single.infRung = 2139095040 := by decide
  have hB : Ieee.single.binade = 8388608 := by decide
  have hL : Ieee.single.leastPlace = -149 := by decide
  unfold FloatKind.decode FloatKind.format Ieee.Format.read
  simp only [hS, hI, hB, hL]
  split
  · rename_i h; exact .inr (.inr ⟨_, _, _, rfl, by omega, by omega, by omega⟩)
  · split
    · rename_i h1 h2; exact .inr (.inr ⟨_, _, _, rfl, by omega, by omega, by omega⟩)
    · split
      · exact .inr (.inl ⟨_, rfl⟩)
      · exact .inl ⟨_, _, rfl⟩
/-- A double that is no NaN. -/
def okD (r : Nat) : Prop := dne r r = false ∧ ∃ q, ddiv 4607182418800017408 r = some q
theorem one64 : Ieee.double.read 4607182418800017408 = .number false 4503599627370496 (-52) := by decide +kernel
theorem okD_num {r : Nat} {s : Bool} {m : Nat} {e : Int} (h : Ieee.double.read r = .number s m e) : okD r := by
  refine ⟨?_, ?_⟩
  · simp [dne, FloatKind.format, Ieee.Format.order, h, Ieee.Datum.order]
  · simp only [ddiv, FloatKind.format, Ieee.Format.div, h, one64, Ieee.Datum.quotient]
    split <;> simp
theorem okD_inf {r : Nat} {s : Bool} (h : Ieee.double.read r = .infinity s) : okD r := by
  refine ⟨?_, ?_⟩
  · simp [dne, FloatKind.format, Ieee.Format.order, h, Ieee.Datum.order]
  · simp [ddiv, FloatKind.format, Ieee.Format.div, h, one64, Ieee.Datum.quotient]
def isN (x : Nat) : Bool := (FloatKind.f32.decode x).isNaN
/-- The NaN that comes of it. -/
def nanOf (x : Nat) (w : World) : Nat := (Question.nanConv .f64 x).cut (w.tape w.drawn (.nanConv .f64 x))
theorem nan_read (k : Nat) (h : k < 4503599627370495) (b : Nat) : (Ieee.double.read (b * 2 ^ 63 + 0x7ff0000000000000 + 1 + k)).isNaN = true := by
  unfold Ieee.Format.read
  rw [d_hs, d_hi, d_hb]
  have e : (b * 2 ^ 63 + 0x7ff0000000000000 + 1 + k) % 9223372036854775808 = 9218868437227405312 + 1 + k := by omega
  simp only [e]
  rw [if_neg (by omega), if_neg (by omega), if_neg (by omega)]; rfl
theorem order_nan {r : Nat} (h : (Ieee.double.read r).isNaN = true) : dne r r = true := by
  unfold dne FloatKind.format Ieee.Format.order
  revert h
  cases Ieee.double.read r <;> simp [Ieee.Datum.isNaN, Ieee.Datum.order]
theorem dne_nanOf (x : Nat) (w : World) : dne (nanOf x w) (nanOf x w) = true := by
  apply order_nan
  unfold nanOf Question.cut
  exact nan_read _ (Nat.mod_lt _ (by omega)) _
theorem run_widen_nan {P : Program} (w : World) (src dst : TypeId) (x : Nat) (hs : (P.underlying src).isSome = true) (hd : P.underlying dst = some (.float .f64)) (h : isN x = true) :
    (convert src dst (.float .f32 x)).run P w = .ok (.float .f64 (nanOf x w)) w.drew := by
  obtain ⟨u, hs'⟩ := Option.isSome_iff_exists.1 hs
  unfold isN at h
  cases hx : FloatKind.f32.decode x with
  | number _ _ _ => rw [hx] at h; cases h
  | infinity _ => rw [hx] at h; cases h
  | nan s t =>
    have hq : (Question.nanConv FloatKind.f64 x).forced = false := rfl
    cases u <;> simp [convert, run_underlying hs', run_underlying hd, Conv.floatToFloat, hx, hq, nanOf]
theorem widen_some (x : Nat) (h : isN x = false) : ∃ r, floatToFloatBits .f32 x .f64 = some r ∧ okD r := by
  unfold isN at h
  unfold floatToFloatBits
  rw [if_neg (by decide)]
  rcases read32 x with ⟨s, t, e⟩ | ⟨s, e⟩ | ⟨s, m, p, e, h1, h2, h3⟩
  · rw [e] at h; cases h
  · rw [e]
    refine ⟨_, rfl, okD_inf (s := s) ?_⟩
    cases s <;> decide +kernel
  · rw [e]
    obtain ⟨r, hr, hw⟩ := widen_word s h1 h2 h3
    obtain ⟨m', e', hrd⟩ := read_word s hr
    have he : FloatKind.f64.encode (.number s m p) = Ieee.double.word s r := hw
    simp only [he]
    have hd : FloatKind.f64.decode (Ieee.double.word s r) = .number s m' e' := hrd
    rw [hd]
    exact ⟨_, rfl, okD_num hrd⟩
end Go.Proofs.Ytbelopcfmjgfiaa
