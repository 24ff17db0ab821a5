import Derived.Test.YtcnkjcbjlopkmaaWl2
import Derived.Test.YtcnkjcbjlopkmaaMad
namespace Go.Proofs.Ytcnkjcbjlopkmaa.Q
open Go.RowKit Go.Proofs.YtcnkjcbjlopkmaaW.PrintWords Go.Proofs.YtcnkjcbjlopkmaaW.PrintLast Go.Proofs.YtcnkjcbjlopkmaaW.PrintMore
set_option linter.unusedVariables false
set_option linter.unusedSimpArgs false
def ed (n : Nat) (d : List S54) : List S78 := (d.map o55).map (edgeOf (n : Int))
theorem ed_get {n : Nat} {d : List S54} {i : Nat} (h : i < d.length) : eg (ed n d) i = edgeOf (n : Int) (o55 d[i]) := by
  unfold eg ed
  rw [List.getD_eq_getElem?_getD, List.getElem?_map, List.getElem?_map, List.getElem?_eq_getElem h]
  rfl
theorem ed_len (n : Nat) (d : List S54) : (ed n d).length = d.length := by simp [ed]
section
variable {n : Nat} {d : List S54}
theorem good_ok {x : S54} (h : GoodD (n : Int) x) : okDiff (n : Int) (o55 x) = true := by
  obtain ⟨h1, h2, h3, h4, h5, h6, h7⟩ := h
  unfold okDiff
  exact decide_eq_true ⟨h1, h3, h2, h4, h5, by show _ ≤ x.f2; omega, by show x.f2 ≤ _; omega⟩
theorem valid_of (hn : n ≤ 10) (hl : d.length ≤ 64) (hg : ∀ x ∈ d, GoodD (n : Int) x) : validS (n : Int) (d.map o55) = 0 := by
  unfold validS
  have h1 : ¬ ((n : Int) > 10 ∨ (d.map o55).length > 64) := by rw [List.length_map]; omega
  have h2 : ¬ (n : Int) < 0 := by omega
  have h3 : (d.map o55).all (okDiff (n : Int)) = true := by
    rw [List.all_eq_true]
    intro y hy
    obtain ⟨x, hx, rfl⟩ := List.mem_map.1 hy
    exact good_ok (hg x hx)
  rw [if_neg h1, if_neg h2, if_pos h3]
theorem ed_ok (hn : n ≤ 10) (hl : d.length ≤ 64) (hg : ∀ x ∈ d, GoodD (n : Int) x) : OkE n (ed n d) := by
  have := (validS_ok (valid_of hn hl hg)).2.2.2
  rwa [Int.toNat_natCast] at this
theorem closeS_good (hn : n ≤ 10) (hl : d.length ≤ 64) (hg : ∀ x ∈ d, GoodD (n : Int) x) : closeS (n : Int) (d.map o55) = if negB (n + 1) (R_ n (ed n d)) = true then ([], 14) else (tabOf (n + 1) (R_ n (ed n d)), 0) := by
  unfold closeS
  rw [if_pos (valid_of hn hl hg), Int.toNat_natCast]
  rfl
end
end Go.Proofs.Ytcnkjcbjlopkmaa.Q
