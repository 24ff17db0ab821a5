/- The call of Cycle gives the plain function. -/
import Derived.Test.YtcnkjcbjlopkmaaCyc2
import Derived.Test.YtcnkjcbjlopkmaaEdg
import Derived.Laws.Cover3
namespace Go.Proofs.Ytcnkjcbjlopkmaa.Q
open Go.RowKit Go.Proofs.YtcnkjcbjlopkmaaW.PrintWords Go.Proofs.YtcnkjcbjlopkmaaW.PrintLast Go.Proofs.YtcnkjcbjlopkmaaW.PrintMore
set_option linter.unusedVariables false
set_option linter.unusedSimpArgs false
theorem validS_ok {n : Int} {l : List S55} (h : validS n l = 0) : 0 ≤ n ∧ n ≤ 10 ∧ l.length ≤ 64 ∧ OkE n.toNat (l.map (edgeOf n)) := by
 unfold validS at h
 split at h
 ·cases h
 ·rename_i h1
  split at h
  ·cases h
  ·rename_i h2
   split at h
   ·rename_i h3
    refine ⟨by omega, by omega, by omega, ?_⟩
    intro x hx
    obtain ⟨d, hd, rfl⟩ := List.mem_map.1 hx
    have hok := List.all_eq_true.1 h3 d hd
    simp only [okDiff, decide_eq_true_eq] at hok
    unfold edgeOf rowOf
    simp only
    split <;> split <;> omega
   ·cases h
theorem cycFirst_step (n : Nat) (l : List S78) (m d f : Nat) (h : d + f = l.length) (hf : f < l.length) : cycFirst n l m d f = match cycleS n l f m with | some r => some r | none => cycFirst n l m (d - 1) (f + 1) := by
 obtain ⟨d', rfl⟩ : ∃ d', d = d' + 1 := ⟨d - 1, by omega⟩
 rfl
theorem cycMany_step (n : Nat) (l : List S78) (d m : Nat) (h : 1 ≤ d) : cycMany n l d m = match cycFirst n l m l.length 0 with | some r => some r | none => cycMany n l (d - 1) (m + 1) := by
 obtain ⟨d', rfl⟩ : ∃ d', d = d' + 1 := ⟨d - 1, by omega⟩
 rfl
set_option maxHeartbeats 8000000 in
set_option maxRecDepth 100000 in
theorem bounds_Cycle.calls (a0 : Int) (A1 : Option Addr) (c1 : Nat) (l1 : List (S55)) (r1 : List Int) (r2 : Int) (w : World) (hr1 : Kd.C k55 w A1 l1.length l1) (hc1 : l1.length ≤ c1) (h : bounds_Cycle.f a0 l1 = some (r1, r2)) :
  Calls Try.prog 15 #[.int .i64 a0, .slice A1 l1.length c1] w fun e w' => ∃ v0_ : Value, e = .returned (.tuple #[v0_, .int .i64 r2]) ∧ Kd.R (Kd.int .i64) 3 w' w.heap.size (fun _ => True) v0_ r1 ∧ Below w.heap.size w w' := by
 have hS := Option.some.inj h
 clear h
 obtain ⟨kE, hE⟩ := edges_f a0 l1
 have q22 : ∀ (w : World) (a : Option Addr) (n c : Nat), (binOp .neq 22 (.slice a n c) (.slice none 0 0)).run Try.prog w = .ok (.bool (!a.isNone)) w := fun w a n c => by
  have h_ := run_equal_slice_nil (P := Try.prog) w 22 3 a n c Try.underlying22
  simp [binOp, Sem.run_bind, h_]
 by_cases hv : validS a0 l1 = 0
 ·rw [if_pos hv] at hS hE
  obtain ⟨n0, n1, ll, hok⟩ := validS_ok hv
  obtain ⟨N, rfl⟩ := Int.eq_ofNat_of_zero_le n0
  rw [Int.toNat_natCast] at hS hok
  have eEl : (l1.map (edgeOf (N : Int))).length = l1.length := by simp
  generalize l1.map (edgeOf (N : Int)) = es at hS hE hok eEl
  have hel : es.length ≤ 64 := by omega
  clear eEl
  have hcall := bounds_edges.calls kE (N : Int) A1 c1 l1 es 0 w hr1 hc1 hE
  clear hE hv
  have HQ := Aside0.mk q22
  clear q22
  go_enter Try.func15, Try.ntmps15
  go_wp2_with fail
  refine hcall.mono ?_
  rintro e w2 ⟨v2, rfl, ho, hb⟩
  obtain ⟨A2, c2, rfl⟩ := Kd.R_slice ho
  obtain ⟨-, hc2, hC2⟩ := Kd.R_reads' ho
  have HC2 := Aside0.mk hC2
  have HB2 := Aside0.mk hb
  clear ho hb hC2 hcall
  have HWN := Aside0.mk (wrapOk ((N : Int) + 1) (by omega) (by omega))
  go_wp2_with fail
  go_loopw [8] (fun v8 wr => ∃ m : Nat, 2 ≤ m ∧ m ≤ N + 2 ∧ v8 = .int .i64 (m : Int) ∧ cycMany N es (N + 2 - m) m = cycMany N es N 2 ∧ Below w2.heap.size w2 wr)
   (fun v8 _ => N + 3 - (intOf v8).toNat)
  case atStart => exact ⟨2, by omega, by omega, rfl, rfl, Below.refl _ _⟩
  case round =>
   obtain ⟨m, hm2, hm, rfl, hC, hb⟩ := hrel
   obtain ⟨wo, hwo⟩ : ∃ wo, wo = wr := ⟨_, rfl⟩
   subst hwo
   have HB := Aside0.mk hb
   have HM := Aside0.mk hC
   clear hb hC
   have hwn := HWN.out
   by_cases hlt : (m : Int) ≤ (N : Int) + 1
   ·have hlt1 : decide ((m : Int) ≤ (N : Int) + 1) = true := decide_eq_true hlt
    go_wp2_with fail
    clear hwn
    go_loopw [28] (fun v28 wi => ∃ f : Nat, f ≤ es.length ∧ v28 = .int .i64 (f : Int) ∧ cycFirst N es m (es.length - f) f = cycFirst N es m es.length 0 ∧ Below w2.heap.size w2 wi)
     (fun v28 _ => es.length - (intOf v28).toNat)
    case atStart => exact ⟨0, by omega, rfl, rfl, HB.out⟩
    case round =>
     clear HB
     obtain ⟨f, hf, rfl, hF, hb⟩ := hrel
     have HB := Aside0.mk hb
     have HF := Aside0.mk hF
     clear hb hF
     by_cases hlf : (f : Int) < (es.length : Int)
     ·have hlf1 : decide ((f : Int) < (es.length : Int)) = true := decide_eq_true hlf
      have hcy := cycle_calls N A2 c2 es f m wr (Kd.C_below HC2.out HB.out) hc2 (by omega) hm2 (by omega) (by omega) hel hok
      have hst := cycFirst_step N es m (es.length - f) f (by omega) (by omega)
      rw [HF.out] at hst
      have HST0 := Aside0.mk hst
      have hmm := cycMany_step N es (N + 2 - m) m (by omega)
      rw [HM.out] at hmm
      have HMM := Aside0.mk hmm
      clear hst hmm
      go_wp2_with fail
      refine hcy.mono ?_
      rintro e w' ⟨v, rfl, hb', hr⟩
      clear hcy
      have hst := HST0.out
      have HBB := Aside0.mk (below_step HB.out hb')
      rcases hr with ⟨hn, rfl⟩ | ⟨r, hs, hrl, hR⟩
      ·rw [hn] at hst
       have HST := Aside0.mk hst
       have q22 := HQ.out
       clear hst hn hb'
       go_wp2_with fail
       go_roundw
       case rel =>
        go_light
        exact ⟨f + 1, by omega, by simp, by rw [HST.out]; rfl, HBB.out⟩
       case measure => go_light; simp [intOf]; omega
      ·rw [hs] at hst
       have hRl := Kd.R_lower hR (base' := w.heap.size) (Nat.le_trans HB2.out.size HB.out.size)
       obtain ⟨g, cap, rfl, -⟩ := Kd.R_form hRl hrl
       have HST := Aside0.mk hst
       have HRR := Aside0.mk hRl
       have q22 := HQ.out
       clear hst hs hb' hR hRl
       go_wp2_with fail
       go_ret2
       have hmm := HMM.out
       rw [HST.out] at hmm
       simp only [hmm] at hS
       injection hS with e1 e2
       subst e1 e2
       exact ⟨_, rfl, HRR.out, below_step HB2.out HBB.out⟩
     ·have hlf1 : decide ((f : Int) < (es.length : Int)) = false := decide_eq_false hlf
      have hfe : f = es.length := by omega
      have hF := HF.out
      rw [hfe, Nat.sub_self] at hF
      have hmm := cycMany_step N es (N + 2 - m) m (by omega)
      rw [HM.out, ← hF] at hmm
      have HMM := Aside0.mk hmm
      clear hF hmm hfe HF
      go_wp2_with fail
      go_roundw
      case rel =>
       go_light
       have hmm := HMM.out
       refine ⟨m + 1, by omega, by omega, by simp, ?_, HB.out⟩
       rw [hmm, show N + 2 - (m + 1) = N + 2 - m - 1 by omega]
       rfl
      case measure => go_light; simp [intOf]; omega
   ·have hlt1 : decide ((m : Int) ≤ (N : Int) + 1) = false := decide_eq_false hlt
    have hme : m = N + 2 := by omega
    have hM := HM.out
    rw [hme, Nat.sub_self] at hM
    rw [← hM] at hS
    injection hS with e1 e2
    subst e1 e2
    clear hM hme
    go_wp2_with fail
    go_ret2
    exact ⟨_, rfl, Kd.R_nil _ _ _ _ _, below_step HB2.out HB.out⟩
 ·rw [if_neg hv] at hS hE
  injection hS with e1 e2
  subst e1 e2
  have hcall := bounds_edges.calls kE a0 A1 c1 l1 [] (validS a0 l1) w hr1 hc1 hE
  obtain ⟨z, hz⟩ : ∃ z, validS a0 l1 = z := ⟨_, rfl⟩
  rw [hz] at hcall hv
  have dv : (z != 0) = true := by simp [hv]
  have dv2 : (z == 0) = false := by simp [hv]
  rw [hz]
  clear hE hz
  go_enter Try.func15, Try.ntmps15
  go_wp2_with fail
  refine hcall.mono ?_
  rintro e w2 ⟨v2, rfl, ho, hb⟩
  have HB2 := Aside0.mk hb
  clear hb hcall
  go_wp2_with fail
  go_ret2
  exact ⟨_, rfl, Kd.R_nil _ _ _ _ _, HB2.out⟩
end Go.Proofs.Ytcnkjcbjlopkmaa.Q
