/- What own, the reference's Valid, table and Close compute; Close is the reference's. -/
import Derived.Test.YtcnkjcbjlopkmaaClo2
import Derived.Test.YtcnkjcbjlopkmaaCyc
namespace Go.Proofs.Ytcnkjcbjlopkmaa.Q
open Go.RowKit Go.Proofs.YtcnkjcbjlopkmaaW.PrintWords Go.Proofs.YtcnkjcbjlopkmaaW.PrintLast Go.Proofs.YtcnkjcbjlopkmaaW.PrintMore
set_option linter.unusedVariables false
set_option linter.unusedSimpArgs false
def o55 (d : S54) : S55 := ⟨d.f0, d.f1, d.f2⟩
theorem rd54 {l : List S54} {i : Nat} (h : i < l.length) : rd_T54 l (i : Int) = l[i] := by simp [rd_T54, List.getD_eq_getElem?_getD, h]
theorem own_loop (l : List S54) (hl : l.length ≤ 500) : ∀ d i, i + d = l.length → Ev (fun k => l14_own.l0 k l ((l.take i).map o55) (i : Int)) (l.map o55)
 | 0, i, hi => by
  refine Ev.step (f := fun _ => some (l.map o55)) (fun k => ?_) (Ev.now _)
  unfold l14_own.l0
  rw [if_neg (by omega), show i = l.length by omega, List.take_length]
 | d + 1, i, hi => by
  have hlt : i < l.length := by omega
  refine Ev.step (fun k => ?_) (own_loop l hl d (i + 1) (by omega))
  conv => lhs; unfold l14_own.l0
  rw [if_pos (by omega), if_pos (by omega), if_pos (by rw [List.length_map, List.length_take]; omega), rd54 hlt, wrap_nat i (by omega), List.take_succ_eq_append_getElem hlt, List.map_append]
  rfl
theorem own_f (l : List S54) (hl : l.length ≤ 500) : Ev (fun k => l14_own.f k l) (l.map o55) := by
 have := own_loop l hl l.length 0 (by omega)
 exact this
section
variable {n : Nat} {N : Nat} {r : List (List Int)}
end
section
variable {n : Nat} {N : Nat} {r : List (List Int) × Int}
end
def closeS (n : Int) (l : List S55) : List (List Int) × Int :=
 if validS n l = 0 then (if negB (n.toNat + 1) (run (n.toNat + 1) (T1 (l.map (edgeOf n))) (n.toNat + 1)) = true then ([], 14) else (tabOf (n.toNat + 1) (run (n.toNat + 1) (T1 (l.map (edgeOf n))) (n.toNat + 1)), 0)) else ([], validS n l)
theorem close_f (n : Int) (l : List S55) : Ev (fun k => bounds_Close.f k n l) (closeS n l) := by
 unfold closeS bounds_Close.f
 obtain ⟨kE, hE⟩ := edges_f n l
 refine Ev.bind (Ev.of (fun k => bounds_edges.mono n l k) hE) ?_
 by_cases hv : validS n l = 0
 ·obtain ⟨n0, n1, ll, hok⟩ := validS_ok hv
  obtain ⟨m, rfl⟩ := Int.eq_ofNat_of_zero_le n0
  rw [Int.toNat_natCast] at hok ⊢
  simp only [if_pos hv]
  refine Ev.bind (closed_f m (by omega) _ hok (by rw [List.length_map]; exact ll)) ?_
  unfold closedS
  cases negB (m + 1) (run (m + 1) (T1 (l.map (edgeOf (m : Int)))) (m + 1)) with
  | true => exact Ev.now _
  | false => exact Ev.now _
 ·simp only [if_neg hv]
  exact Ev.now _
end Go.Proofs.Ytcnkjcbjlopkmaa.Q
