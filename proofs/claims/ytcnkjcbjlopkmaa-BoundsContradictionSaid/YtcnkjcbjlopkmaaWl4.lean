import Derived.Test.YtcnkjcbjlopkmaaWl3
import Derived.Test.YtcnkjcbjlopkmaaMad
namespace Go.Proofs.Ytcnkjcbjlopkmaa.Q
open Go.RowKit Go.Proofs.YtcnkjcbjlopkmaaW.PrintWords Go.Proofs.YtcnkjcbjlopkmaaW.PrintLast Go.Proofs.YtcnkjcbjlopkmaaW.PrintMore
set_option linter.unusedVariables false
set_option linter.unusedSimpArgs false
def ed (n : Nat) (d : List S54) : List S78 := (d.map o55).map (edgeOf (n : Int))
theorem ed_get {n : Nat} {d : List S54} {i : Nat} (h : i < d.length) : eg (ed n d) i = edgeOf (n : Int) (o55 d[i]) := by
  unfold eg ed
  rw [List.getD_eq_getElem?_getD, List.getElem?_map, List.getElem?_map, List.getElem?_eq_getElem h]
  rfl
theorem ed_len (n : Nat) (d : List S54) : (ed n d).length = d.length := by simp [ed]
section
variable {n : Nat} {d : List S54}
theorem good_ok {x : S54} (h : GoodD (n : Int) x) : okDiff (n : Int) (o55 x) = true := by
  obtain ⟨h1, h2, h3, h4, h5, h6, h7⟩ := h
  unfold okDiff
  exact decide_eq_true ⟨h1, h3, h2, h4, h5, by show _ ≤ x.f2; omega, by show x.f2 ≤ _; omega⟩
theorem valid_of (hn : n ≤ 10) (hl : d.length ≤ 64) (hg : ∀ x ∈ d, GoodD (n : Int) x) : validS (n : Int) (d.map o55) = 0 := by
  unfold validS
  have h1 : ¬ ((n : Int) > 10 ∨ (d.map o55).length > 64) := by rw [List.length_map]; omega
  have h2 : ¬ (n : Int) < 0 := by omega
  have h3 : (d.map o55).all (okDiff (n : Int)) = true := by
    rw [List.all_eq_true]
    intro y hy
    obtain ⟨x, hx, rfl⟩ := List.mem_map.1 hy
    exact good_ok (hg x hx)
  rw [if_neg h1, if_neg h2, if_pos h3]
theorem ed_ok (hn : n ≤ 10) (hl : d.length ≤ 64) (hg : ∀ x ∈ d, GoodD (n : Int) x) : OkE n (ed n d) := by
  have := (validS_ok (valid_of hn hl hg)).2.2.2
  rwa [Int.toNat_natCast] at this
theorem rowOf_ne {n a b : Int} (h1 : -1 ≤ a) (h2 : a < n) (h3 : -1 ≤ b) (h4 : b < n) (h5 : a ≠ b) : rowOf n a ≠ rowOf n b := by
  unfold rowOf
  by_cases x : a < 0
  · by_cases y : b < 0
    · omega
    · rw [if_pos x, if_neg y]; omega
  · by_cases y : b < 0
    · rw [if_neg x, if_pos y]; omega
    · rw [if_neg x, if_neg y]; exact h5
theorem ed_noloop (hg : ∀ x ∈ d, GoodD (n : Int) x) : NoLoop (ed n d) := by
  intro e he
  obtain ⟨y, hy, rfl⟩ := List.mem_map.1 he
  obtain ⟨x, hx, rfl⟩ := List.mem_map.1 hy
  obtain ⟨h1, h2, h3, h4, h5, -, -⟩ := hg x hx
  exact rowOf_ne h1 h2 h3 h4 h5
theorem closeS_good (hn : n ≤ 10) (hl : d.length ≤ 64) (hg : ∀ x ∈ d, GoodD (n : Int) x) : closeS (n : Int) (d.map o55) = if negB (n + 1) (R_ n (ed n d)) = true then ([], 14) else (tabOf (n + 1) (R_ n (ed n d)), 0) := by
  unfold closeS
  rw [if_pos (valid_of hn hl hg), Int.toNat_natCast]
  rfl
theorem tabOf_rows (N : Nat) (S : Tb) : (tabOf N S).length = N ∧ ∀ x ∈ tabOf N S, x.length = N := by
  refine ⟨tabOf_len N S, fun x hx => ?_⟩
  unfold tabOf at hx
  obtain ⟨a, -, rfl⟩ := List.mem_map.1 hx
  exact rowL_len _ _
theorem closeS_len (hn : n ≤ 10) (hl : d.length ≤ 64) (hg : ∀ x ∈ d, GoodD (n : Int) x) : (closeS (n : Int) (d.map o55)).1.length ≤ 1000 ∧ ∀ x ∈ (closeS (n : Int) (d.map o55)).1, x.length ≤ 1000 := by
  rw [closeS_good hn hl hg]
  split
  · exact ⟨by simp, fun x hx => by simp at hx⟩
  · obtain ⟨h1, h2⟩ := tabOf_rows (n + 1) (R_ n (ed n d))
    exact ⟨by show (tabOf _ _).length ≤ _; omega, fun x hx => by have := h2 x hx; omega⟩
theorem closeS_turn (hn : n ≤ 10) (hl : d.length ≤ 64) (hg : ∀ x ∈ d, GoodD (n : Int) x) (m : Nat) : closeS (n : Int) ((d.drop m ++ d.take m).map o55) = closeS (n : Int) (d.map o55) := by
  have hmem : ∀ x, x ∈ d.drop m ++ d.take m ↔ x ∈ d := by
    intro x
    rw [List.mem_append]
    constructor
    · rintro (h | h)
      · exact List.mem_of_mem_drop h
      · exact List.mem_of_mem_take h
    · intro h
      rw [← List.take_append_drop m d, List.mem_append] at h
      exact h.symm
  have hlen : (d.drop m ++ d.take m).length ≤ 64 := by simp; omega
  rw [closeS_good hn hl hg, closeS_good hn hlen (fun x hx => hg x ((hmem x).1 hx))]
  have e : R_ n (ed n (d.drop m ++ d.take m)) = R_ n (ed n d) := by
    unfold R_
    rw [T1_perm (es := ed n (d.drop m ++ d.take m)) (fs := ed n d)]
    · intro y hy
      obtain ⟨z, hz, rfl⟩ := List.mem_map.1 hy
      obtain ⟨x, hx, rfl⟩ := List.mem_map.1 hz
      exact List.mem_map_of_mem (List.mem_map_of_mem ((hmem x).1 hx))
    · intro y hy
      obtain ⟨z, hz, rfl⟩ := List.mem_map.1 hy
      obtain ⟨x, hx, rfl⟩ := List.mem_map.1 hz
      exact List.mem_map_of_mem (List.mem_map_of_mem ((hmem x).2 hx))
  rw [e]
def cycF (n : Int) (l : List S55) : List Int × Int := if validS n l = 0 then (match cycMany n.toNat (l.map (edgeOf n)) n.toNat 2 with | some r => (r, 0) | none => ([], 6)) else ([], validS n l)
def subD (d : List S54) (q : List Nat) : List S54 := q.map fun i => d.getD i z54
theorem subD_good (hg : ∀ x ∈ d, GoodD (n : Int) x) {q : List Nat} (hq : ∀ i ∈ q, i < d.length) : ∀ x ∈ subD d q, GoodD (n : Int) x := by
  intro x hx
  obtain ⟨i, hi, rfl⟩ := List.mem_map.1 hx
  rw [List.getD_eq_getElem?_getD, List.getElem?_eq_getElem (hq i hi)]
  exact hg _ (List.getElem_mem _)
theorem subD_ed {q : List Nat} (hq : ∀ i ∈ q, i < d.length) : ed n (subD d q) = q.map (eg (ed n d)) := by
  unfold subD
  rw [ed, List.map_map, List.map_map]
  refine List.map_congr_left (fun i hi => ?_)
  rw [ed_get (hq i hi)]
  simp [List.getD_eq_getElem?_getD, hq i hi]
theorem close_all (hn : n ≤ 10) (hg : ∀ x ∈ d, GoodD (n : Int) x) (hl : d.length ≤ 64) {p : List Nat} {a s : Int} (w : Way (ed n d) a a p s) (hs : s < 0) (hp : p.length ≤ 64) : (closeS (n : Int) ((subD d p).map o55)).2 = 14 := by
  have hq : ∀ i ∈ p, i < d.length := fun i hi => by have := w.mem i hi; rwa [ed_len] at this
  have hgs := subD_good hg hq
  have hls : (subD d p).length ≤ 64 := by unfold subD; rw [List.length_map]; exact hp
  obtain ⟨q, hq2⟩ := Way.all_ [] w
  rw [List.nil_append, ← subD_ed hq] at hq2
  rw [closeS_good hn hls hgs, if_pos ((neg_iff hn (ed_ok hn hls hgs)).2 ⟨a, q, s, hq2, hs⟩)]
theorem close_less (hn : n ≤ 10) (hg : ∀ x ∈ d, GoodD (n : Int) x) (hl : d.length ≤ 64) {p q : List Nat} (hp : p.length ≤ 64) (hq : ∀ i ∈ q, i < d.length) (hlt : q.length < p.length) (hmin : ∀ a' p' s', Way (ed n d) a' a' p' s' → s' < 0 → p.length ≤ p'.length) : (closeS (n : Int) ((subD d q).map o55)).2 = 0 := by
  have hgs := subD_good hg hq
  have hls : (subD d q).length ≤ 64 := by unfold subD; rw [List.length_map]; omega
  rw [closeS_good hn hls hgs]
  split
  · rename_i hneg
    exfalso
    obtain ⟨a, p', s, w, hs⟩ := (neg_iff hn (ed_ok hn hls hgs)).1 hneg
    obtain ⟨a2, p2, s2, g1, -⟩ := exists_least _ p'.length a p' s (Nat.le_refl _) w hs
    have hle := g1.len_edges
    rw [ed_len] at hle
    have hw := g1.way
    rw [subD_ed hq] at hw
    obtain ⟨q', e1, e2⟩ := Way.of_sub (fun i hi => by rw [ed_len]; exact hq i hi) hw
    have := hmin a2 q' s2 e2 g1.neg
    unfold subD at hle
    rw [List.length_map] at hle
    omega
  · rfl
end
end Go.Proofs.Ytcnkjcbjlopkmaa.Q
