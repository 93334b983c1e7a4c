/- The contract of cron.seek. -/
import Derived.Test.YthelnkoohbnjpaaDoorCronW
set_option linter.unusedVariables false
set_option linter.unusedSimpArgs false
namespace Go.Proofs.YthelnkoohbnjpaaDoor
open Go.RowKit
set_option linter.unusedVariables false
def clampT (n : Int) : Int := min (max n (-100000000000)) 100000000000
/-- does the day that begins at a time fit? -/
def Cr.dayFit (c : Cr) (shift at0 : Int) : Bool := c.day (Tide.moOf ((clampT (at0 + 43200) + 60 * shift) / 86400)) (Tide.dyOf ((clampT (at0 + 43200) + 60 * shift) / 86400)) (((clampT (at0 + 43200) + 60 * shift) / 86400 + 4) % 7)
/-- the beginning of the day of a time -/
def dayStart (sec shift : Int) : Int := sec - (sec + 60 * shift) % 86400
def dayAt (sec shift side : Int) (i : Nat) : Int := dayStart sec shift + side * i * 86400
def Cr.hit (c : Cr) (sec shift side : Int) (i : Nat) : Bool := c.dayFit shift (dayAt sec shift side i) && (c.inDay (dayAt sec shift side i) sec side).isSome
def inTime (o : Option Int) : Option Int := match o with | none => none | some n => if n < -100000000000 ∨ 100000000000 < n then none else some n
def Cr.seekO (c : Cr) (sec shift side : Int) : Option Int := match Tide.firstUnder (c.hit sec shift side) 3001 with | none => none | some i => inTime (c.inDay (dayAt sec shift side i) sec side)
def Cr.seekE (c : Cr) (sec shift : Int) : Int := if c.ok then (if okTime sec shift then 0 else 1) else 1
def Cr.seekV (c : Cr) (sec shift side : Int) : Value := if c.ok = true ∧ okTime sec shift then (match c.seekO sec shift side with | none => .tuple #[.int .i64 0, .bool false, .int .i64 0] | some n => .tuple #[.int .i64 n, .bool true, .int .i64 0]) else .tuple #[.int .i64 0, .bool false, .int .i64 1]
def Cr7 (w : World) (b : Nat) (c : Cr) : Prop := Tide.At w b 24 c.cells
theorem rest_parts (t : Int) : 0 ≤ t % 86400 / 3600 ∧ t % 86400 / 3600 ≤ 23 ∧ 0 ≤ t % 86400 / 60 % 60 ∧ t % 86400 / 60 % 60 ≤ 59 ∧ 0 ≤ t % 86400 % 60 ∧ t % 86400 % 60 ≤ 59 ∧ t % 86400 / 3600 * 3600 + t % 86400 / 60 % 60 * 60 + t % 86400 % 60 = t % 86400 := by omega
end Go.Proofs.YthelnkoohbnjpaaDoor
