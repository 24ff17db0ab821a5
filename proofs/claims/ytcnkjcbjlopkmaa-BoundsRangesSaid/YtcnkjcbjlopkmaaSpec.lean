/- What Repeat, Range, Holds and Cycle of package bounds compute, as plain functions. -/
import Derived.Test.YtcnkjcbjlopkmaaQ0
namespace Go.Proofs.Ytcnkjcbjlopkmaa.Q
open Go.RowKit Go.Proofs.YtcnkjcbjlopkmaaW.PrintWords Go.Proofs.YtcnkjcbjlopkmaaW.PrintLast Go.Proofs.YtcnkjcbjlopkmaaW.PrintMore
set_option linter.unusedVariables false
set_option linter.unusedSimpArgs false

def FREE : Int := 1099511627776
def slices_Repeat_int_int.f (xs : List Int) (n : Int) : Option (List Int) :=
  if xs.length = 1 ∧ 1 ≤ n ∧ n ≤ 11 then some (List.replicate n.toNat (rd xs 0)) else none

/-! Range -/
def wild (x : Int) : Bool := decide (x < -FREE) || decide (x > FREE)
/-- Is the table one of Range's? -/
def badTab (c : List (List Int)) : Bool := decide (c.length < 1) || decide (11 < c.length) || c.any (fun row => decide (row.length ≠ c.length) || row.any wild)
def cel (c : List (List Int)) (i k : Nat) : Int := (c.getD i []).getD k 0
/-- The row for the value number j, k values standing: the last one for 0. -/
def rowAt (n k j : Nat) : Nat := if j = k then n else j
def loOf (c : List (List Int)) (vs : List Int) (n k : Nat) : Nat → Option Int
  | 0 => none
  | j + 1 =>
    let x := cel c (rowAt n k j) k
    let r := loOf c vs n k j
    if x < FREE then some (match r with | none => vs.getD j 0 - x | some y => if y < vs.getD j 0 - x then vs.getD j 0 - x else y) else r
def hiOf (c : List (List Int)) (vs : List Int) (n k : Nat) : Nat → Option Int
  | 0 => none
  | j + 1 =>
    let x := cel c k (rowAt n k j)
    let r := hiOf c vs n k j
    if x < FREE then some (match r with | none => vs.getD j 0 + x | some y => if vs.getD j 0 + x < y then vs.getD j 0 + x else y) else r
def rangeS (c : List (List Int)) (vs : List Int) : Int × Int × Int :=
  if badTab c || vs.any wild then (0, 0, 1)
  else if c.length - 1 ≤ vs.length then (0, 0, 6)
  else
    let lo := (loOf c vs (c.length - 1) vs.length (vs.length + 1)).getD (-FREE)
    let hi := (hiOf c vs (c.length - 1) vs.length (vs.length + 1)).getD FREE
    if hi < lo then (0, 0, 14) else (lo, hi, 0)
def bounds_Range.f (c : List (List Int)) (vs : List Int) : Option (Int × Int × Int) := some (rangeS c vs)

/-! Holds -/
def gotV (vs : List Int) (i : Int) : Int := if i < 0 then 0 else rd vs i
def breaks (vs : List Int) (d : S55) : Bool :=
  decide (d.f0 < -1) || decide (d.f1 < -1) || decide ((vs.length : Int) ≤ d.f0) || decide ((vs.length : Int) ≤ d.f1) || decide (gotV vs d.f0 > wrap64 (gotV vs d.f1 + d.f2))
def firstBad (vs : List Int) : List S55 → Nat → Int
  | [], _ => -1
  | d :: r, i => if breaks vs d then (i : Int) else firstBad vs r (i + 1)
def bounds_Holds.f (l : List S55) (vs : List Int) : Option Int := some (firstBad vs l 0)

/-! Cycle -/
def rowOf (n : Int) (a : Int) : Int := if a < 0 then n else a
def edgeOf (n : Int) (d : S55) : S78 := ⟨rowOf n d.f0, rowOf n d.f1, d.f2⟩
def okDiff (n : Int) (d : S55) : Bool := decide (-1 ≤ d.f0 ∧ -1 ≤ d.f1 ∧ d.f0 < n ∧ d.f1 < n ∧ d.f0 ≠ d.f1 ∧ -2097152 ≤ d.f2 ∧ d.f2 ≤ 2097152)
def validS (n : Int) (l : List S55) : Int := if n > 10 ∨ l.length > 64 then 4 else if n < 0 then 1 else if l.all (okDiff n) then 0 else 1
/-- One step of the table: what the row of the ways of s - 1 edges gives, through the edges es. -/
def stepRow (prev : List Int) (es : List S78) (row : List Int) : List Int :=
  es.foldl (fun row x => if rd prev x.f1 < FREE then row.set x.f0.toNat (mn (rd row x.f0) (rd prev x.f1 + x.f2)) else row) row
def ways (n : Nat) (es : List S78) (tgt : Int) : Nat → List Int
  | 0 => (List.replicate (n + 1) FREE).set tgt.toNat 0
  | s + 1 => stepRow (ways n es tgt s) es (List.replicate (n + 1) FREE)
/-- The first edge from 'at' on which the way may go on: its index (from i on) and itself. -/
def nextE (W : List Int) (at_ sum : Int) : List S78 → Nat → Option (Nat × S78)
  | [], _ => none
  | x :: r, i => if x.f0 = at_ ∧ rd W x.f1 < FREE ∧ sum + x.f2 + rd W x.f1 < 0 then some (i, x) else nextE W at_ sum r (i + 1)
def goOn (n : Nat) (es : List S78) (tgt : Int) (from_ : Nat) : Nat → Int → Int → List Int → List Int
  | 0, _, _, out => out
  | s + 1, at_, sum, out => match nextE (ways n es tgt s) at_ sum es from_ with
    | none => goOn n es tgt from_ s at_ sum out
    | some (i, x) => goOn n es tgt from_ s x.f1 (sum + x.f2) (out ++ [(i : Int)])
def cycleS (n : Nat) (l : List S78) (first many : Nat) : Option (List Int) :=
  let f := l.getD first z78
  let es := l.drop (first + 1)
  if rd (ways n es f.f0 (many - 1)) f.f1 < FREE ∧ f.f2 + rd (ways n es f.f0 (many - 1)) f.f1 < 0 then some (goOn n es f.f0 (first + 1) (many - 1) f.f1 f.f2 [(first : Int)]) else none
def cycFirst (n : Nat) (l : List S78) (many : Nat) : Nat → Nat → Option (List Int)
  | 0, _ => none
  | d + 1, first => match cycleS n l first many with
    | some r => some r
    | none => cycFirst n l many d (first + 1)
def cycMany (n : Nat) (l : List S78) : Nat → Nat → Option (List Int)
  | 0, _ => none
  | d + 1, many => match cycFirst n l many l.length 0 with
    | some r => some r
    | none => cycMany n l d (many + 1)
def bounds_Cycle.f (n : Int) (l : List S55) : Option (List Int × Int) :=
  some (if validS n l = 0 then (match cycMany n.toNat (l.map (edgeOf n)) n.toNat 2 with | some r => (r, 0) | none => ([], 6)) else ([], validS n l))
end Go.Proofs.Ytcnkjcbjlopkmaa.Q
