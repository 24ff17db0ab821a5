/- The call of slices.Repeat at one number gives the plain function. -/
import Derived.Test.YtcnkjcbjlopkmaaSpec
import Derived.Test.YtcnkjcbjlopkmaaQ3
import Derived.Laws.CopyOwn
import Derived.Deep.RegionLaw
import Derived.Shelf.Abstract
namespace Go.Proofs.Ytcnkjcbjlopkmaa.Q
open Go.RowKit Go.Proofs.YtcnkjcbjlopkmaaW.PrintWords Go.Proofs.YtcnkjcbjlopkmaaW.PrintLast Go.Proofs.YtcnkjcbjlopkmaaW.PrintMore
set_option linter.unusedVariables false
set_option linter.unusedSimpArgs false
theorem mul_small (n : Int) (h1 : 1 ≤ n) (h2 : n ≤ 11) : bits_Mul.f 1 n = some (0, n) := by
 have : n = 1 ∨ n = 2 ∨ n = 3 ∨ n = 4 ∨ n = 5 ∨ n = 6 ∨ n = 7 ∨ n = 8 ∨ n = 9 ∨ n = 10 ∨ n = 11 := by omega
 rcases this with h | h | h | h | h | h | h | h | h | h | h <;> (subst h; decide +kernel)
theorem splice_rep {α : Type} (cur : List α) (N m k : Nat) (X Z : α) (h : cur.take N = List.replicate m X ++ List.replicate (N - m) Z) (hk : m + k ≤ N) (hN : N ≤ cur.length) :
  (Go.splice cur m (List.replicate k X)).take N = List.replicate (m + k) X ++ List.replicate (N - (m + k)) Z := by
 have hc : cur = (List.replicate m X ++ List.replicate (N - m) Z) ++ cur.drop N := by rw [← h, List.take_append_drop]
 generalize cur.drop N = t at hc
 subst hc
 apply List.ext_getElem?
 intro j
 simp only [Go.splice, List.getElem?_take, List.getElem?_append, List.getElem?_drop, List.length_replicate, List.getElem?_replicate, List.length_append, List.length_take]
 rcases Nat.lt_or_ge j N with hj | hj
 ·rw [if_pos hj]
  rcases Nat.lt_or_ge j m with h1 | h1
  ·have : j < min m (m + (N - m) + t.length) := by omega
   simp only [if_pos this, if_pos (show j < m + (N - m) by omega), if_pos h1, if_pos (show j < m + k by omega)]
  ·have e1 : min m (m + (N - m) + t.length) = m := by omega
   rw [e1, if_neg (by omega)]
   rcases Nat.lt_or_ge j (m + k) with h2 | h2
   ·rw [if_pos (by omega), if_pos (by omega), if_pos h2, if_pos h2]
   ·rw [if_neg (by omega), if_neg (by omega : ¬ j < m + k)]
    rw [if_pos (by omega : m + k + (j - m - k) < m + (N - m)), if_neg (by omega : ¬ m + k + (j - m - k) < m), if_pos (by omega), if_pos (by omega)]
 ·rw [if_neg (by omega), if_neg (by omega), if_neg (by omega)]
set_option maxHeartbeats 8000000 in
set_option maxRecDepth 100000 in
theorem slices_Repeat_int_int.calls (A0 : Option Addr) (c0 : Nat) (l0 : List Int) (a1 : Int) (r : List Int) (w : World) (hr0 : Kd.C (Kd.int .i64) w A0 l0.length l0) (hc0 : l0.length ≤ c0) (h : slices_Repeat_int_int.f l0 a1 = some r) :
  Calls Try.prog 46 #[.slice A0 l0.length c0, .int .i64 a1] w fun e w' => ∃ v0_ : Value, e = .returned (v0_) ∧ Kd.R (Kd.int .i64) 3 w' w.heap.size (fun _ => True) v0_ r ∧ Below w.heap.size w w' := by
 unfold slices_Repeat_int_int.f at h
 split at h
 case isFalse => cases h
 case isTrue hp =>
 obtain ⟨hl, h1, h2⟩ := hp
 obtain rfl := Option.some.inj h
 clear h
 obtain ⟨x, rfl⟩ := List.length_eq_one_iff.1 hl
 clear hl
 rw [show rd [x] 0 = x from rfl]
 simp only [List.length_singleton] at hr0 hc0 ⊢
 have hmul := Aside0.mk (mul_small a1 h1 h2)
 have hu1 : IntKind.u64.wrap a1 = a1 := by rw [IntKind.wrap_u64]; omega
 have hi1 : IntKind.i64.wrap a1 = a1 := by rw [IntKind.wrap_i64]; omega
 have hneg : decide (a1 < 0) = false := decide_eq_false (by omega)
 have hbig : decide (9223372036854775807 < a1) = false := decide_eq_false (by omega)
 have HB := Aside0.mk (Below.refl w.heap.size w)
 have HR0 := Aside0.mk hr0
 clear hr0
 have g0 := Aside0.mk h1
 have g1 := Aside0.mk h2
 clear h1 h2
 go_enter Try.func46, Try.ntmps46
 go_wp2_with (first | ((with_reducible refine gate_callee (f := 50) rfl ?_); refine goesL_ (some 18) rfl rfl Try.func50 (by kernel_rfl) rfl #[.int .u64 1, .int .u64 a1] rfl (by (try simp only [List.map_toArray, List.map_cons, List.map_nil]); first | done | rfl) ?_; (with_reducible refine (bits_Mul.calls 1 a1 0 a1 _ hmul.out).mono ?_); rintro e w' ⟨rfl, ⟨nd, rfl⟩⟩; refine ⟨_, rfl, ?_⟩) | ((with_reducible refine gate_dst (N := 30) rfl ?_); refine Kd.R_make (Kd.int .i64) _ 3 rfl (N := 30) rfl 22 _ _ rfl a1 rfl rfl Try.underlying22 (.int .i64 0) 8 info3 rfl (by decide) (by omega) 0 (ok := fun _ => True) (okp := fun _ => True) rfl (fun _ hk => hk) trivial (by have := g0.out; omega) (by have := g1.out; omega) (Below.refl _ _) (Nat.le_refl _) ?_; intro v1 w1 ho hb hg_ hnew_; clear hg_ hnew_; have hb1 := below_step (by repeat (first | (with_reducible first | exact HB.out | apply below_alloc | apply pw_below_drewN | apply below_drew1) | exact HB.out) : Below w.heap.size w (w.drewN nd)) hb; have n1_ := Aside0.mk (Kd.R_lower ho (below_size (by repeat (first | (with_reducible first | exact HB.out | apply below_alloc | apply pw_below_drewN | apply below_drew1) | exact HB.out) : Below w.heap.size w (w.drewN nd)))); have HR1 := Aside0.mk (Kd.C_below HR0.out hb1); clear HB HR0 ho hb; have HO := n1_; have HB := Aside0.mk hb1; clear n1_ hb1; obtain ⟨g, cap, rfl, gb, gl, cl, HG⟩ := Kd.R_form HO.out (by rw [List.length_replicate]; have := g0.out; omega); have GB := Aside0.mk gb; clear gb gl HG cl; replace HO := Aside0.mk (show Kd.R (Kd.int .i64) 3 w1 w.heap.size (fun _ => True) (.slice (some ⟨g, 0, none⟩) a1.toNat cap) (List.replicate a1.toNat 0) from by have h_ := HO.out; rw [List.length_replicate] at h_; exact h_)) | ((with_reducible refine gate_builtin (b := .copy) (xs := #[.tmp 31, .tmp 32]) rfl ?_); refine Kd.R_copy (enc := Value.int .i64) (h1 := fun _ => rfl) 0 (w0 := w) w.heap.size rfl (.tmp 31) (.tmp 32) 22 22 3 rfl Try.underlying22 (by kernel_rfl) (.slice (some ⟨g, 0, none⟩) a1.toNat cap) (List.replicate a1.toNat 0) [x] _ _ _ (fun _ => True) rfl rfl HO.out HR1.out HB.out (below_size HB.out) ?_; intro w2 hp_ hb hg; clear HO HB HR1; have HO := Aside0.mk hp_; have HB := Aside0.mk hb; clear hp_ hb hg))
 have hN1 : 1 ≤ a1.toNat := by have := g0.out; omega
 have hN2 : a1.toNat ≤ 11 := by have := g1.out; omega
 have hcap : a1.toNat ≤ cap := (Kd.R_reads' HO.out).2.1
 generalize hNe : a1.toNat = N at hN1 hN2 hcap HO ⊢
 have HO' : Aside0 (Kd.R (Kd.int .i64) 3 w2 w.heap.size (fun _ => True) (.slice (some ⟨g, 0, none⟩) N cap) (List.replicate 1 x ++ List.replicate (N - 1) 0)) := by
  have h_ := HO.out
  rw [List.length_replicate, Nat.min_eq_left hN1] at h_
  rw [List.drop_replicate] at h_
  exact ⟨h_⟩
 clear HO
 have hmn : min 1 N = 1 := Nat.min_eq_left hN1
 go_loopw [8] (fun v8 wr => ∃ m : Nat, 1 ≤ m ∧ m ≤ N ∧ v8 = .int .i64 (m : Int) ∧ Kd.R (Kd.int .i64) 3 wr w.heap.size (fun _ => True) (.slice (some ⟨g, 0, none⟩) N cap) (List.replicate m x ++ List.replicate (N - m) 0) ∧ Below w.heap.size w wr)
  (fun v8 _ => N - (intOf v8).toNat)
 case atStart => exact ⟨1, by omega, hN1, by simp [hmn], HO'.out, HB.out⟩
 case round =>
  clear HO' HB
  obtain ⟨m, hm1, hmN, rfl, hO, hB⟩ := hrel
  by_cases hlt : (m : Int) < (N : Int)
  ·have hlt1 : decide ((m : Int) < (N : Int)) = true := decide_eq_true hlt
   have HO := Aside0.mk hO
   have HB := Aside0.mk hB
   clear hO hB
   go_wp2_with fail
   have q0 : (0 : Int) ≤ (m : Int) := by omega
   have q1 : (m : Int) ≤ (N : Int) := by omega
   have q2 : (m : Int) ≤ (cap : Int) := by omega
   have q3 : ¬ cap = m := by omega
   obtain ⟨hlx, hform⟩ := Kd.own_of_R (enc := Value.int .i64) (h1 := fun _ => rfl) HO.out
   rcases hform with ⟨h0, _⟩ | ⟨g', cap', cur, hv, hb0, hh, hnc, hcm, hcs, htake⟩
   ·cases h0
   injection hv with e1 e2 e3
   injection e1 with e1
   injection e1 with e1
   subst e1
   subst e3
   rw [← e2, Nat.mul_one] at htake
   rw [Nat.mul_one] at hcs
   have hT : cur.toList.take N = List.replicate m (Value.int .i64 x) ++ List.replicate (N - m) (Value.int .i64 0) := by rw [htake]; simp [encs]
   clear htake hlx hb0 hnc
   obtain ⟨cs, hcs1⟩ : ∃ cs, cs = List.replicate (min m (N - m)) (Value.int .i64 x) := ⟨_, rfl⟩
   have hkl : cs.length = min m (N - m) := by rw [hcs1, List.length_replicate]
   have s1 : Hid (∀ j v, cs[j]? = some v → wr.drew.cell? ((⟨g, 0, none⟩ : Addr).add j) = some v) := by
    intro j v hjv
    have hj : j < min m (N - m) := by
     rcases Nat.lt_or_ge j (min m (N - m)) with h | h
     ·exact h
     ·rw [List.getElem?_eq_none (by omega)] at hjv
      cases hjv
    rw [hcs1, List.getElem?_replicate, if_pos hj] at hjv
    have e1 : (cur.toList.take N)[j]? = some (Value.int .i64 x) := by rw [hT, List.getElem?_append, List.length_replicate, if_pos (by omega), List.getElem?_replicate, if_pos (by omega)]
    rw [List.getElem?_take, if_pos (by omega)] at e1
    rw [add_plain]
    show wr.cell? ⟨g, j, none⟩ = some v
    rw [cell_of_row wr g j cur 3 (0, 0) hh, ← hjv, ← e1]
    simp
   have s2 : Hid (∀ v ∈ cs, v.oneCell' = true) := by
    intro v hv
    rw [hcs1] at hv
    rw [(List.mem_replicate.1 hv).2]
    rfl
   have hnew := Aside0.mk (splice_rep cur.toList N m (min m (N - m)) (Value.int .i64 x) (Value.int .i64 0) hT (by omega) (by rw [Array.length_toList]; omega))
   rw [← hcs1] at hnew
   have hh2 := Aside0.mk (show wr.drew.heap[g]? = some (Obj.cells cur.toList.toArray 3 (0, 0)) from by rw [Array.toArray_toList]; exact hh)
   have s3 := Aside0.mk (show cs.length = Nat.min m (N - m) from hkl)
   have s4 := Aside0.mk (show m + cs.length ≤ cur.toList.length from by
    have h_ : cur.toList.length = cap := by rw [Array.length_toList]; exact hcs
    omega)
   have hwr : IntKind.i64.wrap ((m : Int) + (cs.length : Int)) = (m : Int) + (cs.length : Int) := by rw [IntKind.wrap_i64]; omega
   have s5 := Aside0.mk hcs1
   have s6 := Aside0.mk hcs
   have s7 := Aside0.mk hcm
   clear hcs1 hT hh hcs hcm e2 hkl
   go_region_law (refine step_copy_splice rfl (.tmp 41) (.tmp 44) 22 22 rfl 3 Try.underlying22 (by kernel_rfl) (some ⟨g, m, none⟩) (some ⟨g, 0, none⟩) (N - m) (cap - m) m cap (by simp [Act.eval, Act.put]) (by simp [Act.eval, Act.put]) g m cur.toList 3 hh2.out cs s3.out (fun _ => ⟨rfl, ⟨g, 0, none⟩, rfl, s1⟩) s4.out s2 w.heap.size w (below_drew1 HB.out) GB.out ?_; intro w4 hg4 hb4)
   go_wp2
   go_roundw
   case rel =>
    refine ⟨m + min m (N - m), by omega, by omega, ?_, ?_⟩
    ·have h_ : cs.length = min m (N - m) := s3.out
     omega
    ·refine Kd.R_of_own (enc := Value.int .i64) (h1 := fun _ => rfl) ?_ (fun _ _ => trivial)
     have hl : (List.replicate (m + min m (N - m)) x ++ List.replicate (N - (m + min m (N - m))) (0 : Int)).length = N := by simp; omega
     rw [hl]
     refine ⟨by rw [encs_length, hl, Nat.mul_one], .inr ⟨g, cap, (Go.splice cur.toList m cs).toArray, rfl, GB.out, hg4, hcap, s7.out, ?_, ?_⟩⟩
     ·rw [List.size_toArray, Go.length_splice _ _ _ s4.out, Array.length_toList, Nat.mul_one]
      exact s6.out
     ·rw [Nat.mul_one]
      show (Go.splice cur.toList m cs).take N = _
      rw [hnew.out]
      simp [encs]
   case measure =>
    have h_ : cs.length = min m (N - m) := s3.out
    simp only [intOf]
    omega
  ·have hlt1 : decide ((m : Int) < (N : Int)) = false := decide_eq_false hlt
   have HO := Aside0.mk hO
   have HB := Aside0.mk hB
   clear hO hB
   go_wp2_with fail
   go_ret
   have hmeq : m = N := by omega
   subst hmeq
   rw [Nat.sub_self, List.replicate_zero, List.append_nil] at HO
   exact ⟨_, rfl, by first | exact HO.out | (rw [hNe]; exact HO.out), HB.out⟩
end Go.Proofs.Ytcnkjcbjlopkmaa.Q
