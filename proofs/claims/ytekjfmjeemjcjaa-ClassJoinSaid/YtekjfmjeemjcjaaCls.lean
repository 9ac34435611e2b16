/-
  Plain functions: what a rune is. No program is named here. Nothing is assumed.
-/
import Derived.Test.YtekjfmjeemjcjaaUtf
namespace Go.Proofs.Ytekjfmjeemjcjaa
open Go.RowKit Go.Lib

def evenB (r : Int) : Bool := decide (r % 2 = 0)
def greatP (r : Int) : Prop :=
  (65 ≤ r ∧ r ≤ 90) ∨ (0xC0 ≤ r ∧ r ≤ 0xDE ∧ r ≠ 0xD7) ∨ (((0x100 ≤ r ∧ r ≤ 0x137) ∨ (0x14A ≤ r ∧ r ≤ 0x177)) ∧ r % 2 = 0) ∨ (0x139 ≤ r ∧ r ≤ 0x148 ∧ r % 2 = 1) ∨ r = 0x178 ∨
  (0x179 ≤ r ∧ r ≤ 0x17D ∧ r % 2 = 1) ∨ (0x386 ≤ r ∧ r ≤ 0x38F ∧ r ≠ 0x387 ∧ r ≠ 0x38B ∧ r ≠ 0x38D) ∨ (0x391 ≤ r ∧ r ≤ 0x3AB ∧ r ≠ 0x3A2) ∨ (0x400 ≤ r ∧ r ≤ 0x42F)
instance (r : Int) : Decidable (greatP r) := by unfold greatP; infer_instance
def great (r : Int) : Bool := decide (greatP r)
def smallP (r : Int) : Prop :=
  (97 ≤ r ∧ r ≤ 122) ∨ (0xDF ≤ r ∧ r ≤ 0xFF ∧ r ≠ 0xF7) ∨ (((0x100 ≤ r ∧ r ≤ 0x137) ∨ (0x14A ≤ r ∧ r ≤ 0x177)) ∧ r % 2 = 1) ∨ r = 0x138 ∨ r = 0x149 ∨ r = 0x17F ∨ r = 0x390 ∨
  (0x139 ≤ r ∧ r ≤ 0x148 ∧ r % 2 = 0) ∨ (0x17A ≤ r ∧ r ≤ 0x17E ∧ r % 2 = 0) ∨ (0x3AC ≤ r ∧ r ≤ 0x3CE) ∨ (0x430 ≤ r ∧ r ≤ 0x45F)
instance (r : Int) : Decidable (smallP r) := by unfold smallP; infer_instance
def small (r : Int) : Bool := decide (smallP r)
def letter (r : Int) : Bool := great r || small r
def script (r : Int) : Int := if !letter r then 0 else if r < 0x386 then 1 else if r < 0x400 then 2 else 3
def lower (r : Int) : Int :=
  if !great r then r
  else if r = 0x130 then 0x69 else if r = 0x178 then 0xFF else if r = 0x386 then 0x3AC else if r = 0x38C then 0x3CC
  else if 0x388 ≤ r ∧ r ≤ 0x38A then r + 0x25 else if r = 0x38E ∨ r = 0x38F then r + 0x3F
  else if 0x400 ≤ r ∧ r ≤ 0x40F then r + 0x50 else if r < 0x100 ∨ 0x17F < r then r + 0x20 else r + 1
def back (r : Int) : Int :=
  if r = 0xFF then 0xFF - 0x178
  else if r < 0x100 ∨ (0x3B1 ≤ r ∧ r ≤ 0x3CB) ∨ (0x430 ≤ r ∧ r ≤ 0x44F) then 0x20
  else if r ≤ 0x17F then 1
  else if r = 0x3AC then 0x3AC - 0x386
  else if 0x3AD ≤ r ∧ r ≤ 0x3AF then 0x25
  else if r = 0x3CC then 0x40
  else if r = 0x3CD ∨ r = 0x3CE then 0x3F
  else 0x50
def upper (r : Int) : Int :=
  if !small r then r
  else if r = 0x131 then 0x49 else if r = 0x17F then 0x53 else if r = 0x3C2 then 0x3A3
  else if great (r - back r) && (lower (r - back r) == r) then r - back r else r
def kindP (r : Int) : Int :=
  if r < 0 ∨ (0xD800 ≤ r ∧ r ≤ 0xDFFF) ∨ 0x10FFFF < r then 0
  else if letter r then 1
  else if 0x300 ≤ r ∧ r ≤ 0x36F then 2
  else if 48 ≤ r ∧ r ≤ 57 then 3
  else if r = 10 ∨ r = 13 then 4
  else if r = 9 ∨ r = 32 ∨ r = 0xA0 ∨ r = 0x202F ∨ r = 0x205F ∨ r = 0x3000 then 5
  else if r = 45 ∨ (0x2010 ≤ r ∧ r ≤ 0x2015) then 6
  else if r = 34 ∨ r = 39 ∨ r = 0xAB ∨ r = 0xBB ∨ r = 0x2039 ∨ r = 0x203A then 7
  else if r = 33 ∨ r = 44 ∨ r = 46 ∨ r = 58 ∨ r = 59 ∨ r = 63 ∨ r = 0xA1 ∨ r = 0xB7 ∨ r = 0xBF ∨ r = 0x2026 then 8
  else if 0x2000 ≤ r ∧ r ≤ 0x200A then 5
  else if 0x2018 ≤ r ∧ r ≤ 0x201F then 7
  else if r < 0x20 ∨ (0x7F ≤ r ∧ r ≤ 0x9F) ∨ (0x200B ≤ r ∧ r ≤ 0x200F) ∨ r = 0xFEFF then 9
  else 10
def kind (r : Int) : Int := kindP r

theorem great_iff (r : Int) : great r = true ↔ greatP r := by simp [great]
theorem small_iff (r : Int) : small r = true ↔ smallP r := by simp [small]

end Go.Proofs.Ytekjfmjeemjcjaa
