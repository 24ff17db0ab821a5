/- What the reference's back computes: the table of the ways. -/
import Derived.Test.YtcnkjcbjlopkmaaRcl
import Derived.Test.YtcnkjcbjlopkmaaCyc2
import Derived.Test.YtcnkjcbjlopkmaaQ9
namespace Go.Proofs.Ytcnkjcbjlopkmaa.Q
open Go.RowKit Go.Proofs.YtcnkjcbjlopkmaaW.PrintWords Go.Proofs.YtcnkjcbjlopkmaaW.PrintLast Go.Proofs.YtcnkjcbjlopkmaaW.PrintMore
set_option linter.unusedVariables false
set_option linter.unusedSimpArgs false

/-- s rows are there, the next is 'row'. -/
def bk (M s : Nat) (W : Nat → List Int) (row : List Int) : List (List Int) := mapL M (fun a => if a < s then W a else if a = s then row else [])
theorem bk_len (M s : Nat) (W : Nat → List Int) (row : List Int) : (bk M s W row).length = M := mapL_len _ _
theorem bk_row {M s : Nat} (W : Nat → List Int) (row : List Int) (h : s < M) : rd_L4 (bk M s W row) (s : Int) = row := by
 unfold bk
 rw [mapL_get _ h, if_neg (by omega), if_pos rfl]
theorem bk_old {M s i : Nat} (W : Nat → List Int) (row : List Int) (h : s < M) (hi : i < s) : rd_L4 (bk M s W row) (i : Int) = W i := by
 unfold bk
 rw [mapL_get _ (by omega), if_pos hi]
theorem bk_set {M s : Nat} (W : Nat → List Int) (row row' : List Int) : (bk M s W row).set s row' = bk M s W row' := by
 unfold bk
 rw [mapL_set]
 refine mapL_congr (fun a ha => ?_)
 by_cases h : a = s
 ·subst h
  rw [if_pos rfl, if_neg (by omega), if_pos rfl]
 ·rw [if_neg h, if_neg h, if_neg h]
theorem bk_succ {M s : Nat} (W : Nat → List Int) : bk M s W (W s) = bk M (s + 1) W [] := by
 unfold bk
 refine mapL_congr (fun a ha => ?_)
 by_cases h : a < s
 ·rw [if_pos h, if_pos (by omega)]
 ·rw [if_neg h]
  by_cases h2 : a = s
  ·subst h2
   rw [if_pos rfl, if_pos (by omega)]
  ·rw [if_neg h2, if_neg (by omega)]
   split <;> rfl
theorem bk_all (M : Nat) (n : Nat) (es : List S78) (t : Int) : bk M M (ways n es t) [] = tab n es t M := by
 unfold bk tab mapL
 exact List.map_congr_left (fun a ha => by rw [if_pos (List.mem_range.1 ha)])
theorem mem_rd {es : List S78} {j : Nat} (h : j < es.length) : rd_T78 es (j : Int) ∈ es := by
 unfold rd_T78
 rw [Int.toNat_natCast, List.getD_eq_getElem?_getD, List.getElem?_eq_getElem h]
 exact List.getElem_mem h
theorem edge_at (n : Int) (l : List S54) (k j : Nat) (h : k + j < l.length) : rd_T78 (((l.map o55).map (edgeOf n)).drop k) (j : Int) = edgeOf n (o55 l[k + j]) := by
 rw [rd_drop]
 unfold rd_T78
 rw [Int.toNat_natCast, List.getD_eq_getElem?_getD, List.getElem?_map, List.getElem?_map, List.getElem?_eq_getElem h]
 rfl
section
variable {n : Nat} {M : Nat} {l : List S54} {r : List (List Int)} {frm : Nat} {tgt : Nat}
theorem b_l2 (hn : n ≤ 10) (hl : l.length ≤ 64) (ho : OkE n ((l.map o55).map (edgeOf (n : Int)))) (hM : M ≤ 12) {s : Nat} (hs1 : 1 ≤ s) (hs : s < M) : ∀ d j, frm + 1 + j + d = l.length →
  Ev (fun f => r14_back.l0 f (n : Int) l (frm : Int) (tgt : Int) ((M : Int) - 1) (bk M (s + 1) (ways n (((l.map o55).map (edgeOf (n : Int))).drop (frm + 1)) (tgt : Int)) []) ((s + 1 : Nat) : Int)) r →
  Ev (fun f => r14_back.l2 f (n : Int) l (frm : Int) (tgt : Int) ((M : Int) - 1) (bk M s (ways n (((l.map o55).map (edgeOf (n : Int))).drop (frm + 1)) (tgt : Int)) (stepRow (ways n (((l.map o55).map (edgeOf (n : Int))).drop (frm + 1)) (tgt : Int) (s - 1)) ((((l.map o55).map (edgeOf (n : Int))).drop (frm + 1)).take j) (List.replicate (n + 1) FREE))) (s : Int) ((frm + 1 + j : Nat) : Int)) r
 | 0, j, hj, h => by
  have hlen : (((l.map o55).map (edgeOf (n : Int))).drop (frm + 1)).length = j := by rw [List.length_drop, List.length_map, List.length_map]; omega
  refine Ev.step (fun f => ?_) h
  conv => lhs; unfold r14_back.l2
  rw [if_neg (by omega), wrap_nat s (by omega), ← hlen, ways_last n _ _ s hs1, bk_succ]
 | d + 1, j, hj, h => by
  have hlt : frm + 1 + j < l.length := by omega
  have hje : j < (((l.map o55).map (edgeOf (n : Int))).drop (frm + 1)).length := by rw [List.length_drop, List.length_map, List.length_map]; omega
  have ih := b_l2 hn hl ho hM hs1 hs d (j + 1) (by omega) h
  have hst := stepRow_take (ways n (((l.map o55).map (edgeOf (n : Int))).drop (frm + 1)) (tgt : Int) (s - 1)) (((l.map o55).map (edgeOf (n : Int))).drop (frm + 1)) (List.replicate (n + 1) FREE) j hje
  have hx := ho.drop (frm + 1) (rd_T78 (((l.map o55).map (edgeOf (n : Int))).drop (frm + 1)) j) (mem_rd hje)
  have hE : rd_T78 (((l.map o55).map (edgeOf (n : Int))).drop (frm + 1)) (j : Int) = edgeOf (n : Int) (o55 l[frm + 1 + j]) := edge_at (n : Int) l (frm + 1) j hlt
  rw [hE] at hx hst
  have hbd := ways_bd (ho.drop (frm + 1)) (tgt : Int) (s - 1)
  have hlenP := ways_len n (((l.map o55).map (edgeOf (n : Int))).drop (frm + 1)) (tgt : Int) (s - 1)
  have hlenR : (stepRow (ways n (((l.map o55).map (edgeOf (n : Int))).drop (frm + 1)) (tgt : Int) (s - 1)) ((((l.map o55).map (edgeOf (n : Int))).drop (frm + 1)).take j) (List.replicate (n + 1) FREE)).length = n + 1 := by rw [stepRow_len, List.length_replicate]
  rw [hst] at ih
  have ws : wrap64 ((s : Int) - 1) = ((s - 1 : Nat) : Int) := by rw [wrapOk _ (by omega) (by omega)]; omega
  have hold := bk_old (ways n (((l.map o55).map (edgeOf (n : Int))).drop (frm + 1)) (tgt : Int)) (stepRow (ways n (((l.map o55).map (edgeOf (n : Int))).drop (frm + 1)) (tgt : Int) (s - 1)) ((((l.map o55).map (edgeOf (n : Int))).drop (frm + 1)).take j) (List.replicate (n + 1) FREE)) hs (show s - 1 < s by omega)
  have hrow := bk_row (ways n (((l.map o55).map (edgeOf (n : Int))).drop (frm + 1)) (tgt : Int)) (stepRow (ways n (((l.map o55).map (edgeOf (n : Int))).drop (frm + 1)) (tgt : Int) (s - 1)) ((((l.map o55).map (edgeOf (n : Int))).drop (frm + 1)).take j) (List.replicate (n + 1) FREE)) hs
  refine Ev.step (fun f => ?_) ih
  conv => lhs; unfold r14_back.l2
  rw [if_pos (by omega), if_pos (by omega), rd54 hlt, row_f, row_f, Option.bind_some, Option.bind_some, ws, bk_len, hold, hrow]
  generalize ways n (((l.map o55).map (edgeOf (n : Int))).drop (frm + 1)) (tgt : Int) (s - 1) = prev at *
  generalize stepRow prev ((((l.map o55).map (edgeOf (n : Int))).drop (frm + 1)).take j) (List.replicate (n + 1) FREE) = row at *
  obtain ⟨x, hxx⟩ : ∃ x, l[frm + 1 + j] = x := ⟨_, rfl⟩
  rw [hxx] at hx hst ⊢
  simp only [edgeOf, o55] at hx hst ⊢
  obtain ⟨o1, o2, o3, o4, o5, o6⟩ := hx
  generalize rowOf (n : Int) x.f0 = xa at *
  generalize rowOf (n : Int) x.f1 = xb at *
  have hb := hbd xb
  have hF : FREE = 1099511627776 := rfl
  obtain ⟨ya, rfl⟩ := Int.eq_ofNat_of_zero_le o1
  obtain ⟨yb, rfl⟩ := Int.eq_ofNat_of_zero_le o3
  rw [hlenP, hlenR, if_pos (by omega), if_pos (by omega), if_pos (by omega), if_pos (by omega)]
  unfold step1
  simp only
  have en : wrap64 (((frm + 1 + j : Nat) : Int) + 1) = ((frm + 1 + (j + 1) : Nat) : Int) := wrap_nat (frm + 1 + j) (by omega)
  by_cases hf : rd prev (yb : Int) < FREE
  ·rw [if_pos (show rd prev (yb : Int) < 1099511627776 from hf), if_pos hf, if_pos (by omega), if_pos (by omega), if_pos (by omega), if_pos (by omega), en, Int.toNat_natCast, bk_set, wrapOk _ (by omega) (by omega), Int.add_comm x.f2]
  ·rw [if_neg (show ¬ rd prev (yb : Int) < 1099511627776 from hf), if_neg hf, en]
/-- A row that is being freed, k cells done. -/
def fre (k : Nat) : Nat → Int := fun b => if b < k then FREE else 0
theorem fre_succ (N k : Nat) : (rowL N (fre k)).set k 1099511627776 = rowL N (fre (k + 1)) := by
 rw [rowL_set]
 congr 1
 funext b
 unfold fre
 by_cases h : b = k
 ·subst h
  rw [if_pos rfl, if_pos (by omega)]
  rfl
 ·rw [if_neg h]
  by_cases h2 : b < k
  ·rw [if_pos h2, if_pos (by omega)]
  ·rw [if_neg h2, if_neg (by omega)]
theorem fre_all (N : Nat) : rowL N (fre N) = List.replicate N FREE := by
 rw [rowL_rep]
 unfold rowL
 refine List.map_congr_left (fun b hb => ?_)
 unfold fre
 rw [if_pos (List.mem_range.1 hb)]
theorem b_l1 (hn : n ≤ 10) (hl : l.length ≤ 64) (ho : OkE n ((l.map o55).map (edgeOf (n : Int)))) (hM : M ≤ 12) (hf : frm < l.length) (ht : tgt ≤ n) {s : Nat} (hs : s < M) : ∀ d k, k + d = n + 1 →
  Ev (fun f => r14_back.l0 f (n : Int) l (frm : Int) (tgt : Int) ((M : Int) - 1) (bk M (s + 1) (ways n (((l.map o55).map (edgeOf (n : Int))).drop (frm + 1)) (tgt : Int)) []) ((s + 1 : Nat) : Int)) r →
  Ev (fun f => r14_back.l1 f (n : Int) l (frm : Int) (tgt : Int) ((M : Int) - 1) (bk M s (ways n (((l.map o55).map (edgeOf (n : Int))).drop (frm + 1)) (tgt : Int)) (rowL (n + 1) (fre k))) (s : Int) (k : Int)) r
 | 0, k, hk, h => by
  have e : k = n + 1 := by omega
  subst e
  by_cases h0 : s = 0
  ·subst h0
   refine Ev.step (fun f => ?_) h
   conv => lhs; unfold r14_back.l1
   have hr := bk_row (ways n (((l.map o55).map (edgeOf (n : Int))).drop (frm + 1)) (tgt : Int)) (rowL (n + 1) (fre (n + 1))) hs
   have hr0 : rd_L4 (bk M 0 (ways n (((l.map o55).map (edgeOf (n : Int))).drop (frm + 1)) (tgt : Int)) (rowL (n + 1) (fre (n + 1)))) 0 = rowL (n + 1) (fre (n + 1)) := hr
   rw [if_neg (by omega), if_pos (show ((0 : Nat) : Int) = 0 from rfl), bk_len, if_pos (by omega), if_pos (by omega), hr0, rowL_len, if_pos (by omega), Int.toNat_natCast, wrap_nat 0 (by omega)]
   have e2 : (rowL (n + 1) (fre (n + 1))).set tgt 0 = ways n (((l.map o55).map (edgeOf (n : Int))).drop (frm + 1)) (tgt : Int) 0 := by
    rw [fre_all]
    rfl
   rw [e2]
   have e3 : (bk M 0 (ways n (((l.map o55).map (edgeOf (n : Int))).drop (frm + 1)) (tgt : Int)) (rowL (n + 1) (fre (n + 1)))).set (0 : Int).toNat (ways n (((l.map o55).map (edgeOf (n : Int))).drop (frm + 1)) (tgt : Int) 0) = bk M 1 (ways n (((l.map o55).map (edgeOf (n : Int))).drop (frm + 1)) (tgt : Int)) [] := by
    show (bk M 0 _ _).set 0 _ = _
    rw [bk_set, bk_succ]
   rw [e3]
   first | done | rfl
  ·refine Ev.step (fun f => ?_) (b_l2 hn hl ho hM (by omega) hs (l.length - (frm + 1)) 0 (by omega) h)
   conv => lhs; unfold r14_back.l1
   rw [if_neg (by omega), if_neg (by omega), fre_all, wrap_nat frm (by omega)]
   rfl
 | d + 1, k, hk, h => by
  refine Ev.step (fun f => ?_) (b_l1 hn hl ho hM hf ht hs d (k + 1) (by omega) h)
  conv => lhs; unfold r14_back.l1
  rw [if_pos (by omega), if_pos (by omega), bk_len, if_pos (by omega), if_pos (by omega), bk_row _ _ hs, rowL_len, if_pos (by omega), Int.toNat_natCast, Int.toNat_natCast, bk_set, fre_succ, wrap_nat k (by omega)]
theorem b_l0 (hn : n ≤ 10) (hl : l.length ≤ 64) (ho : OkE n ((l.map o55).map (edgeOf (n : Int)))) (hM : M ≤ 12) (hf : frm < l.length) (ht : tgt ≤ n) : ∀ d s, s + d = M →
  Ev (fun f => r14_back.l0 f (n : Int) l (frm : Int) (tgt : Int) ((M : Int) - 1) (bk M s (ways n (((l.map o55).map (edgeOf (n : Int))).drop (frm + 1)) (tgt : Int)) []) (s : Int)) (tab n (((l.map o55).map (edgeOf (n : Int))).drop (frm + 1)) (tgt : Int) M)
 | 0, s, hs => by
  have e : s = M := by omega
  subst e
  refine Ev.step (f := fun _ => some (tab n (((l.map o55).map (edgeOf (n : Int))).drop (frm + 1)) (tgt : Int) s)) (fun f => ?_) (Ev.now _)
  unfold r14_back.l0
  rw [if_neg (by omega), bk_all]
 | d + 1, s, hs => by
  have hlt : s < M := by omega
  refine Ev.step (fun f => ?_) (b_l1 hn hl ho hM hf ht hlt (n + 1) 0 (by omega) (b_l0 hn hl ho hM hf ht d (s + 1) (by omega)))
  conv => lhs; unfold r14_back.l0
  rw [if_pos (by omega), wrap_nat n (by omega), if_pos (by omega), Int.toNat_natCast, if_pos (by omega), if_pos (by omega), bk_len, if_pos (by omega), Int.toNat_natCast, bk_set, rowL_rep]
  rfl
end
theorem back_f (n : Nat) (hn : n ≤ 10) (l : List S54) (hl : l.length ≤ 64) (ho : OkE n ((l.map o55).map (edgeOf (n : Int)))) (frm tgt M : Nat) (hM1 : 1 ≤ M) (hM : M ≤ 12) (hf : frm < l.length) (ht : tgt ≤ n) :
  Ev (fun k => r14_back.f k (n : Int) l (frm : Int) (tgt : Int) ((M : Int) - 1)) (tab n (((l.map o55).map (edgeOf (n : Int))).drop (frm + 1)) (tgt : Int) M) := by
 have h0 := b_l0 hn hl ho hM hf ht M 0 (by omega)
 refine Ev.congr (fun k => ?_) h0
 unfold r14_back.f
 rw [show wrap64 ((M : Int) - 1 + 1) = (M : Int) by rw [wrapOk _ (by omega) (by omega)]; omega, if_pos (by omega), Int.toNat_natCast, if_pos (by omega)]
 have e : List.replicate M ([] : List Int) = bk M 0 (ways n (((l.map o55).map (edgeOf (n : Int))).drop (frm + 1)) (tgt : Int)) [] := by
  unfold bk mapL
  apply List.ext_getElem?
  intro j
  simp only [List.getElem?_replicate, List.getElem?_map, List.getElem?_range]
  by_cases hj : j < M <;> simp [hj]
 rw [e]
 rfl
end Go.Proofs.Ytcnkjcbjlopkmaa.Q
