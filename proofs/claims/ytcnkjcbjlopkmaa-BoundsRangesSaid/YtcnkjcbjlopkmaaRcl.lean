/- What own, the reference's Valid, table and Close compute; Close is the reference's. -/
import Derived.Test.YtcnkjcbjlopkmaaClo2
import Derived.Test.YtcnkjcbjlopkmaaCyc
namespace Go.Proofs.Ytcnkjcbjlopkmaa.Q
open Go.RowKit Go.Proofs.YtcnkjcbjlopkmaaW.PrintWords Go.Proofs.YtcnkjcbjlopkmaaW.PrintLast Go.Proofs.YtcnkjcbjlopkmaaW.PrintMore
set_option linter.unusedVariables false
set_option linter.unusedSimpArgs false
def o55 (d : S54) : S55 := ⟨d.f0, d.f1, d.f2⟩
theorem rd54 {l : List S54} {i : Nat} (h : i < l.length) : rd_T54 l (i : Int) = l[i] := by simp [rd_T54, List.getD_eq_getElem?_getD, h]
theorem valid_loop (n : Int) (l : List S54) (hl : l.length ≤ 64) : ∀ d i, i + d = l.length → Ev (fun k => r14_Valid.l0 k n l (i : Int)) (if ((l.drop i).map o55).all (okDiff n) = true then 0 else 1)
 | 0, i, hi => by
  refine Ev.step (f := fun _ => some 0) (fun k => ?_) ?_
  ·unfold r14_Valid.l0
   rw [if_neg (by omega)]
  ·rw [show i = l.length by omega, List.drop_length]
   exact Ev.now _
 | d + 1, i, hi => by
  have hlt : i < l.length := by omega
  rw [List.drop_eq_getElem_cons hlt, List.map_cons, List.all_cons]
  obtain ⟨x, hx⟩ : ∃ x, l[i] = x := ⟨_, rfl⟩
  have hrd := rd54 hlt
  rw [hx] at hrd ⊢
  by_cases hok : okDiff n (o55 x) = true
  ·simp only [hok, Bool.true_and]
   have hok' : -1 ≤ x.f0 ∧ -1 ≤ x.f1 ∧ x.f0 < n ∧ x.f1 < n ∧ x.f0 ≠ x.f1 ∧ -2097152 ≤ x.f2 ∧ x.f2 ≤ 2097152 := of_decide_eq_true hok
   obtain ⟨h1, h2, h3, h4, h5, h6, h7⟩ := hok'
   refine Ev.step (fun k => ?_) (valid_loop n l hl d (i + 1) (by omega))
   conv => lhs; unfold r14_Valid.l0
   rw [hrd, if_pos (by omega), if_pos (by omega), if_neg (Int.not_lt.2 h1), if_neg (Int.not_le.2 h3), if_neg (Int.not_lt.2 h2), if_neg (Int.not_le.2 h4), if_neg h5, if_neg (Int.not_lt.2 h6), if_neg (Int.not_lt.2 h7), wrap_nat i (by omega)]
  ·have hok2 : okDiff n (o55 x) = false := by simpa using hok
   simp only [hok2, Bool.false_and]
   refine Ev.step (f := fun _ => some 1) (fun k => ?_) (Ev.now _)
   conv => lhs; unfold r14_Valid.l0
   rw [hrd, if_pos (by omega), if_pos (by omega)]
   have hno : ¬ (-1 ≤ x.f0 ∧ -1 ≤ x.f1 ∧ x.f0 < n ∧ x.f1 < n ∧ x.f0 ≠ x.f1 ∧ -2097152 ≤ x.f2 ∧ x.f2 ≤ 2097152) := fun hh => hok (decide_eq_true hh)
   clear hok hok2 hx hrd
   split
   ·rfl
   split
   ·rfl
   split
   ·rfl
   split
   ·rfl
   split
   ·rfl
   split
   ·rfl
   split
   ·rfl
   exact absurd ⟨by omega, by omega, by omega, by omega, by assumption, by omega, by omega⟩ hno
theorem valid_f (n : Int) (l : List S54) : Ev (fun k => r14_Valid.f k n l) (validS n (l.map o55)) := by
 have hj : ∀ b k, r14_Valid.j0 (k + 1) n l b = if b = true then some 4 else if n < 0 then some 1 else r14_Valid.l0 k n l 0 := fun b k => rfl
 unfold validS
 rw [List.length_map]
 by_cases h1 : n > 10
 ·rw [if_pos (Or.inl h1)]
  refine Ev.step (f := fun _ => some 4) (fun k => ?_) (Ev.now _)
  unfold r14_Valid.f
  rw [if_pos h1]
  rfl
 by_cases h2 : l.length > 64
 ·rw [if_pos (Or.inr h2)]
  refine Ev.step (f := fun _ => some 4) (fun k => ?_) (Ev.now _)
  unfold r14_Valid.f
  have hd : decide ((l.length : Int) > 64) = true := decide_eq_true (by omega)
  rw [if_neg h1, hd]
  rfl
 have hno : ¬ (n > 10 ∨ l.length > 64) := fun hh => Or.elim hh h1 h2
 rw [if_neg hno]
 have hd : decide ((l.length : Int) > 64) = false := decide_eq_false (by omega)
 by_cases h3 : n < 0
 ·rw [if_pos h3]
  refine Ev.step (f := fun _ => some 1) (fun k => ?_) (Ev.now _)
  unfold r14_Valid.f
  rw [if_neg h1, hd, hj, if_neg (by simp), if_pos h3]
 ·rw [if_neg h3]
  refine Ev.step (fun k => ?_) (valid_loop n l (by omega) l.length 0 (by omega))
  unfold r14_Valid.f
  rw [if_neg h1, hd, hj, if_neg (by simp), if_neg h3]
  rfl
theorem row_f (a0 a1 : Int) : r14_row.f a0 a1 = some (rowOf a0 a1) := by
 unfold r14_row.f rowOf
 split <;> rfl
section
variable {n : Nat} {N : Nat} {r : List (List Int)}
def half (i k : Nat) : Nat → Int := fun b => if b < k then idT i b else 0
def initR (N i k : Nat) : List (List Int) := mapL N (fun a => if a < i then rowL N (idT a) else if a = i then rowL N (half i k) else [])
theorem t_l2 (hN : N = n + 1) (hn : n ≤ 10) (l : List S54) (hl : l.length ≤ 64) (ho : OkE n ((l.map o55).map (edgeOf (n : Int)))) : ∀ d e S, e + d = l.length →
  Ev (fun k => r14_table.l2 k (n : Int) l (tabOf N S) (e : Int)) (tabOf N (edgesT ((l.map o55).map (edgeOf (n : Int))) d e S))
 | 0, e, S, he => by
  refine Ev.step (f := fun _ => some (tabOf N S)) (fun k => ?_) (Ev.now _)
  unfold r14_table.l2
  rw [if_neg (by omega)]
 | d + 1, e, S, he => by
  have hlt : e < l.length := by omega
  have hE : rd_T78 ((l.map o55).map (edgeOf (n : Int))) (e : Int) = edgeOf (n : Int) (o55 l[e]) := by simp [rd_T78, List.getD_eq_getElem?_getD, hlt]
  have hx := ho (edgeOf (n : Int) (o55 l[e])) (List.mem_map_of_mem (List.mem_map_of_mem (List.getElem_mem hlt)))
  unfold edgesT
  rw [hE]
  refine Ev.step (fun k => ?_) (t_l2 hN hn l hl ho d (e + 1) _ (by omega))
  conv => lhs; unfold r14_table.l2
  rw [if_pos (by omega), if_pos (by omega), rd54 hlt, row_f, row_f, Option.bind_some, Option.bind_some]
  obtain ⟨x, hxx⟩ : ∃ x, l[e] = x := ⟨_, rfl⟩
  rw [hxx] at hx ⊢
  simp only [edgeOf, o55] at hx ⊢
  obtain ⟨o1, o2, o3, o4, o5, o6⟩ := hx
  generalize rowOf (n : Int) x.f0 = xa at o1 o2 ⊢
  generalize rowOf (n : Int) x.f1 = xb at o3 o4 ⊢
  obtain ⟨ya, rfl⟩ := Int.eq_ofNat_of_zero_le o1
  obtain ⟨yb, rfl⟩ := Int.eq_ofNat_of_zero_le o3
  have hya : ya < N := by omega
  have hyb : yb < N := by omega
  rw [tabOf_row S hya, rowL_get (S ya) hyb, tabOf_len, rowL_len, if_pos (by omega), if_pos (by omega), if_pos (by omega), if_pos (by omega), wrap_nat e (by omega), Int.toNat_natCast, Int.toNat_natCast, tabOf_set S hya]
theorem half_succ (i k : Nat) : (fun b => if b = k then idT i k else half i k b) = half i (k + 1) := by
 funext b
 unfold half
 by_cases h : b = k
 ·subst h
  rw [if_pos rfl, if_pos (by omega)]
 ·rw [if_neg h]
  by_cases h2 : b < k
  ·rw [if_pos h2, if_pos (by omega)]
  ·rw [if_neg h2, if_neg (by omega)]
theorem half_skip (i : Nat) : half i i = half i (i + 1) := by
 funext b
 unfold half
 by_cases h2 : b < i
 ·rw [if_pos h2, if_pos (by omega)]
 ·rw [if_neg h2]
  by_cases h3 : b = i
  ·subst h3
   rw [if_pos (by omega)]
   unfold idT
   rw [if_pos rfl]
  ·rw [if_neg (by omega)]
theorem t_l1 (hN : N = n + 1) (hn : n ≤ 10) (l : List S54) {i : Nat} (hi : i < N) : ∀ d k, k + d = N →
  Ev (fun f => r14_table.l0 f (n : Int) l (initL N (i + 1)) ((i + 1 : Nat) : Int)) r →
  Ev (fun f => r14_table.l1 f (n : Int) l (initR N i k) (i : Int) (k : Int)) r
 | 0, k, hk, h => by
  refine Ev.step (fun f => ?_) h
  conv => lhs; unfold r14_table.l1
  have e : initR N i k = initL N (i + 1) := by
   unfold initR initL
   refine mapL_congr (fun a ha => ?_)
   by_cases h1 : a < i
   ·rw [if_pos h1, if_pos (by omega)]
   ·rw [if_neg h1]
    by_cases h2 : a = i
    ·subst h2
     rw [if_pos rfl, if_pos (by omega)]
     unfold rowL half
     refine List.map_congr_left (fun b hb => ?_)
     have := List.mem_range.1 hb
     rw [if_pos (by omega)]
    ·rw [if_neg h2, if_neg (by omega)]
  rw [if_neg (by omega), e, wrap_nat i (by omega)]
 | d + 1, k, hk, h => by
  have hkl : k < N := by omega
  by_cases hik : (i : Int) = (k : Int)
  ·refine Ev.step (fun f => ?_) (t_l1 hN hn l hi d (k + 1) (by omega) h)
   conv => lhs; unfold r14_table.l1
   have : i = k := by omega
   subst this
   rw [if_pos (by omega), if_pos rfl, wrap_nat i (by omega)]
   unfold initR
   rw [half_skip]
  ·refine Ev.step (fun f => ?_) (t_l1 hN hn l hi d (k + 1) (by omega) h)
   conv => lhs; unfold r14_table.l1
   have hik2 : ¬ i = k := by omega
   have hget : rd_L4 (initR N i k) (i : Int) = rowL N (half i k) := by
    unfold initR
    rw [mapL_get _ hi, if_neg (by omega), if_pos rfl]
   rw [hget]
   unfold initR
   rw [if_pos (by omega), if_neg hik, if_pos (by omega), mapL_len, if_pos (by omega), if_pos (by omega), rowL_len, if_pos (by omega), Int.toNat_natCast, Int.toNat_natCast, rowL_set, mapL_set, wrap_nat k (by omega)]
   have e : mapL N (fun a => if a = i then rowL N (fun b => if b = k then 1099511627776 else half i k b) else if a < i then rowL N (idT a) else if a = i then rowL N (half i k) else []) = mapL N (fun a => if a < i then rowL N (idT a) else if a = i then rowL N (half i (k + 1)) else []) := by
    refine mapL_congr (fun a ha => ?_)
    have ef : (1099511627776 : Int) = idT i k := by unfold idT; rw [if_neg hik2]; rfl
    by_cases h2 : a = i
    ·subst h2
     rw [if_pos rfl, if_neg (by omega), if_pos rfl, ef, half_succ]
    ·rw [if_neg h2, if_neg h2, if_neg h2]
   rw [e]
theorem t_l0 (hN : N = n + 1) (hn : n ≤ 10) (l : List S54) : ∀ d i, i + d = N →
  Ev (fun f => r14_table.l2 f (n : Int) l (tabOf N idT) 0) r →
  Ev (fun f => r14_table.l0 f (n : Int) l (initL N i) (i : Int)) r
 | 0, i, hi, h => by
  refine Ev.step (fun f => ?_) h
  conv => lhs; unfold r14_table.l0
  rw [if_neg (by omega), show i = N by omega, initL_all]
 | d + 1, i, hi, h => by
  have hl : i < N := by omega
  refine Ev.step (fun f => ?_) (t_l1 hN hn l hl N 0 (by omega) (t_l0 hN hn l d (i + 1) (by omega) h))
  conv => lhs; unfold r14_table.l0
  unfold initL
  rw [if_pos (by omega), wrap_nat n (by omega), ← hN, if_pos (by omega), Int.toNat_natCast, if_pos (by omega), if_pos (by omega), mapL_len, if_pos (by omega), Int.toNat_natCast, mapL_set]
  have e : mapL N (fun a => if a = i then List.replicate N 0 else if a < i then rowL N (idT a) else []) = initR N i 0 := by
   unfold initR
   refine mapL_congr (fun a ha => ?_)
   by_cases h2 : a = i
   ·subst h2
    rw [if_pos rfl, if_neg (by omega), if_pos rfl, rowL_rep]
    congr 1
   ·rw [if_neg h2, if_neg h2]
  rw [e]
  rfl
end
theorem table_f (n : Nat) (hn : n ≤ 10) (l : List S54) (hl : l.length ≤ 64) (ho : OkE n ((l.map o55).map (edgeOf (n : Int)))) : Ev (fun k => r14_table.f k (n : Int) l) (tabOf (n + 1) (T1 ((l.map o55).map (edgeOf (n : Int))))) := by
 have h2 := t_l2 (N := n + 1) rfl hn l hl ho l.length 0 idT (by omega)
 have h0 := t_l0 (N := n + 1) rfl hn l (n + 1) 0 (by omega) h2
 have e1 : T1 ((l.map o55).map (edgeOf (n : Int))) = edgesT ((l.map o55).map (edgeOf (n : Int))) l.length 0 idT := by unfold T1; rw [List.length_map, List.length_map]
 rw [e1]
 refine Ev.congr (fun k => ?_) h0
 unfold r14_table.f
 rw [wrap_nat n (by omega), if_pos (by omega), if_pos (by omega), Int.toNat_natCast, initL_zero]
 rfl
section
variable {n : Nat} {N : Nat} {r : List (List Int) × Int}
theorem r_l3 (hN : N = n + 1) (hn : n ≤ 10) (S : Tb) : ∀ d i, i + d = N → Ev (fun k => r14_Close.l3 k (n : Int) (tabOf N S) (i : Int)) (if negFrom S d i then ([], 14) else (tabOf N S, 0))
 | 0, i, hi => by
  refine Ev.step (f := fun _ => some (tabOf N S, 0)) (fun k => ?_) (Ev.now _)
  unfold r14_Close.l3
  rw [if_neg (by omega)]
 | d + 1, i, hi => by
  have hl : i < N := by omega
  unfold negFrom
  by_cases h : S i i < 0
  ·rw [if_pos h]
   refine Ev.step (f := fun _ => some ([], 14)) (fun k => ?_) (Ev.now _)
   unfold r14_Close.l3
   rw [tabOf_row S hl, rowL_get (S i) hl, tabOf_len, rowL_len, if_pos (by omega), if_pos (by omega), if_pos (by omega), if_pos (by omega), if_pos h]
  ·rw [if_neg h]
   refine Ev.step (fun k => ?_) (r_l3 hN hn S d (i + 1) (by omega))
   conv => lhs; unfold r14_Close.l3
   rw [tabOf_row S hl, rowL_get (S i) hl, tabOf_len, rowL_len, if_pos (by omega), if_pos (by omega), if_pos (by omega), if_pos (by omega), if_neg h, wrap_nat i (by omega)]
theorem r_l2 (hN : N = n + 1) (hn : n ≤ 10) {j i : Nat} (hj : j < N) (hi : i < N) : ∀ d k S, k + d = N →
  Ev (fun f => r14_Close.l1 f (n : Int) (tabOf N (rowR j i d k S)) (j : Int) ((i + 1 : Nat) : Int)) r →
  Ev (fun f => r14_Close.l2 f (n : Int) (tabOf N S) (j : Int) (i : Int) (k : Int)) r
 | 0, k, S, hk, h => by
  refine Ev.step (fun f => ?_) h
  conv => lhs; unfold r14_Close.l2
  rw [if_neg (by omega), wrap_nat i (by omega)]
  rfl
 | d + 1, k, S, hk, h => by
  have hl : k < N := by omega
  unfold rowR at h
  refine Ev.step (fun f => ?_) (r_l2 hN hn hj hi d (k + 1) _ (by omega) h)
  conv => lhs; unfold r14_Close.l2
  rw [tabOf_row S hi, tabOf_row S hj, rowL_get (S i) hl, rowL_get (S i) hj, rowL_get (S j) hl, tabOf_len, rowL_len, rowL_len, if_pos (show (k : Int) ≤ (n : Int) by omega), if_pos (show (0 : Int) ≤ (i : Int) by omega), if_pos (show (i : Int) < (N : Int) by omega), if_pos (show (0 : Int) ≤ (j : Int) by omega), if_pos (show (j : Int) < (N : Int) by omega)]
  by_cases h1 : S i j < FREE
  ·rw [if_pos (show S i j < 1099511627776 from h1), if_pos (show (j : Int) < (N : Int) by omega), if_pos (show (0 : Int) ≤ (k : Int) by omega), if_pos (show (k : Int) < (N : Int) by omega)]
   by_cases h2 : S j k < FREE
   ·rw [if_pos (show S j k < 1099511627776 from h2), if_pos (show (k : Int) < (N : Int) by omega), if_pos ⟨h1, h2⟩, Int.toNat_natCast, Int.toNat_natCast, tabOf_set S hi, wrap_nat k (by omega)]
   ·rw [if_neg (show ¬ S j k < 1099511627776 from h2), if_neg (fun hh => h2 hh.2), wrap_nat k (by omega)]
  ·rw [if_neg (show ¬ S i j < 1099511627776 from h1), if_neg (fun hh => h1 hh.1), wrap_nat k (by omega)]
theorem r_l1 (hN : N = n + 1) (hn : n ≤ 10) {j : Nat} (hj : j < N) : ∀ d i S, i + d = N →
  Ev (fun f => r14_Close.l0 f (n : Int) (tabOf N (rowsR N j d i S)) ((j + 1 : Nat) : Int)) r →
  Ev (fun f => r14_Close.l1 f (n : Int) (tabOf N S) (j : Int) (i : Int)) r
 | 0, i, S, hi, h => by
  refine Ev.step (fun f => ?_) h
  conv => lhs; unfold r14_Close.l1
  rw [if_neg (by omega), wrap_nat j (by omega)]
  rfl
 | d + 1, i, S, hi, h => by
  have hl : i < N := by omega
  unfold rowsR at h
  refine Ev.step (fun f => ?_) (r_l2 hN hn hj hl N 0 S (by omega) (r_l1 hN hn hj d (i + 1) _ (by omega) h))
  conv => lhs; unfold r14_Close.l1
  rw [if_pos (by omega)]
  rfl
theorem r_l0 (hN : N = n + 1) (hn : n ≤ 10) : ∀ d j S, j + d = N →
  Ev (fun f => r14_Close.l3 f (n : Int) (tabOf N (stepsR N d j S)) 0) r →
  Ev (fun f => r14_Close.l0 f (n : Int) (tabOf N S) (j : Int)) r
 | 0, j, S, hj, h => by
  refine Ev.step (fun f => ?_) h
  conv => lhs; unfold r14_Close.l0
  rw [if_neg (by omega)]
  rfl
 | d + 1, j, S, hj, h => by
  have hl : j < N := by omega
  unfold stepsR at h
  refine Ev.step (fun f => ?_) (r_l1 hN hn hl N 0 S (by omega) (r_l0 hN hn d (j + 1) _ (by omega) h))
  conv => lhs; unfold r14_Close.l0
  rw [if_pos (by omega)]
  rfl
end
def closeS (n : Int) (l : List S55) : List (List Int) × Int :=
 if validS n l = 0 then (if negB (n.toNat + 1) (run (n.toNat + 1) (T1 (l.map (edgeOf n))) (n.toNat + 1)) = true then ([], 14) else (tabOf (n.toNat + 1) (run (n.toNat + 1) (T1 (l.map (edgeOf n))) (n.toNat + 1)), 0)) else ([], validS n l)
theorem refClose_f (n : Int) (l : List S54) : Ev (fun k => r14_Close.f k n l) (closeS n (l.map o55)) := by
 unfold closeS r14_Close.f
 refine Ev.bind (valid_f n l) ?_
 by_cases hv : validS n (l.map o55) = 0
 ·obtain ⟨n0, n1, ll, hok⟩ := validS_ok hv
  obtain ⟨m, rfl⟩ := Int.eq_ofNat_of_zero_le n0
  rw [Int.toNat_natCast] at hok ⊢
  rw [List.length_map] at ll
  simp only [if_pos hv]
  refine Ev.bind (table_f m (by omega) l ll hok) ?_
  have hb := T1_bnd (m + 1) hok
  have hs := stepsR_run hb (by omega) (m + 1) 0 (T1 ((l.map o55).map (edgeOf (m : Int)))) (by omega) (.inl rfl)
  have h3 := r_l3 (n := m) (N := m + 1) rfl (by omega) (stepsR (m + 1) (m + 1) 0 (T1 ((l.map o55).map (edgeOf (m : Int))))) (m + 1) 0 (by omega)
  rw [negFrom_negB] at h3
  have e1 := same_res (fun t => (t, (0 : Int))) ([], 14) hs
  rw [e1] at h3
  exact r_l0 rfl (by omega) (m + 1) 0 _ (by omega) h3
 ·simp only [if_neg hv]
  exact Ev.now _
end Go.Proofs.Ytcnkjcbjlopkmaa.Q
