/- Plain functions for the proofs: float32 operations as partial functions (none: the answer is a NaN), lists by index. No condition. -/
import Derived.Laws.Entries
namespace Go.Proofs.Ytbelopcfmjgfiaa
open Go

/-! ### float32 -/
def fadd (x y : Nat) : Option Nat := FloatKind.f32.format.add x y
def fsub (x y : Nat) : Option Nat := FloatKind.f32.format.sub x y
def fmul (x y : Nat) : Option Nat := FloatKind.f32.format.mul x y
def fdiv (x y : Nat) : Option Nat := FloatKind.f32.format.div x y
def flt (x y : Nat) : Bool := FloatKind.f32.format.order x y == some .lt
def fgt (x y : Nat) : Bool := FloatKind.f32.format.order x y == some .gt
def feq (x y : Nat) : Bool := FloatKind.f32.format.order x y == some .eq
def fne (x y : Nat) : Bool := FloatKind.f32.format.order x y != some .eq
def fle (x y : Nat) : Bool := FloatKind.f32.format.order x y == some .lt || FloatKind.f32.format.order x y == some .eq
def fge (x y : Nat) : Bool := FloatKind.f32.format.order x y == some .gt || FloatKind.f32.format.order x y == some .eq
/-- 'float32(n)' of a whole number. -/
def ofI (n : Int) : Nat := FloatKind.f32.nearest n
/-! ### float64 -/
def dlt (x y : Nat) : Bool := FloatKind.f64.format.order x y == some .lt
def dgt (x y : Nat) : Bool := FloatKind.f64.format.order x y == some .gt
def deq (x y : Nat) : Bool := FloatKind.f64.format.order x y == some .eq
def dne (x y : Nat) : Bool := FloatKind.f64.format.order x y != some .eq
def dle (x y : Nat) : Bool := FloatKind.f64.format.order x y == some .lt || FloatKind.f64.format.order x y == some .eq
def dge (x y : Nat) : Bool := FloatKind.f64.format.order x y == some .gt || FloatKind.f64.format.order x y == some .eq
def dadd (x y : Nat) : Option Nat := FloatKind.f64.format.add x y
def ddiv (x y : Nat) : Option Nat := FloatKind.f64.format.div x y
/-- 'float64(x)' of a float32; none: a NaN. -/
def cv64 (x : Nat) : Option Nat :=
  match FloatKind.f32.decode x with
  | .nan _ _ => none
  | .infinity s => some (FloatKind.f64.encode (.infinity s))
  | .number s m e => some (FloatKind.f64.encode (.number s m e))

/-! ### lists by index -/
def nth (xs : List Nat) (k : Nat) : Nat := xs.getD k 0
def nthI (xs : List Int) (k : Nat) : Int := xs.getD k 0
theorem drop_nth {xs : List Nat} {k : Nat} (h : k < xs.length) : xs.drop k = nth xs k :: xs.drop (k + 1) := by
  rw [List.drop_eq_getElem_cons h]; simp [nth, h]
theorem drop_nthI {xs : List Int} {k : Nat} (h : k < xs.length) : xs.drop k = nthI xs k :: xs.drop (k + 1) := by
  rw [List.drop_eq_getElem_cons h]; simp [nthI, h]
theorem nth_map {xs : List Nat} {k : Nat} (h : k < xs.length) : (xs.map (Value.float .f32))[k]? = some (.float .f32 (nth xs k)) := by
  simp [nth, h]
theorem nthI_map {xs : List Int} {k : Nat} (h : k < xs.length) : (xs.map (Value.int .i64))[k]? = some (.int .i64 (nthI xs k)) := by
  simp [nthI, h]
end Go.Proofs.Ytbelopcfmjgfiaa
