/- The call of the reference's Cycle gives the plain function. -/
import Derived.Test.YtcnkjcbjlopkmaaBck
import Derived.Deep.Light
import Derived.Test.YtcnkjcbjlopkmaaSp
namespace Go.Proofs.Ytcnkjcbjlopkmaa.Q
open Go.RowKit Go.Proofs.YtcnkjcbjlopkmaaW.PrintWords Go.Proofs.YtcnkjcbjlopkmaaW.PrintLast Go.Proofs.YtcnkjcbjlopkmaaW.PrintMore
set_option linter.unusedVariables false
set_option linter.unusedSimpArgs false

def r14_Cycle.f (k : Nat) (a0 : Int) (l1 : List S54) : Option (List Int × Int) := bounds_Cycle.f a0 (l1.map o55)
theorem r14_Cycle.mono : ∀ a0 a1 k, LeO (r14_Cycle.f k a0 a1) (r14_Cycle.f (k + 1) a0 a1) := fun _ _ _ => LeO.refl _
theorem cycleS_eq (N : Nat) (es : List S78) (f m : Nat) (e : S78) (h : rd_T78 es (f : Int) = e) : cycleS N es f m = if rd (ways N (es.drop (f + 1)) e.f0 (m - 1)) e.f1 < FREE ∧ e.f2 + rd (ways N (es.drop (f + 1)) e.f0 (m - 1)) e.f1 < 0 then some (goOn N (es.drop (f + 1)) e.f0 (f + 1) (m - 1) e.f1 e.f2 [(f : Int)]) else none := by
 unfold cycleS
 have ef : es.getD f z78 = e := by rw [← h]; simp [rd_T78]
 simp only [ef]
/-- What the search holds: the table and the list. -/
structure InvR (w : World) (g m cap N : Nat) (es : List S78) (fa : Int) (v : Value) (o : List Int) (W : World) : Prop where
 t : Kd.R (Kd.slice 3 (Kd.int .i64)) 22 W w.heap.size (fun k => some k ≠ v.ownBlock) (.slice (some ⟨g, 0, none⟩) m cap) (tab N es fa m)
 o : Kd.R (Kd.int .i64) 3 W w.heap.size (fun _ => True) v o
 b : Below w.heap.size w W
theorem InvR.below {w : World} {g m cap N : Nat} {es : List S78} {fa : Int} {v : Value} {o : List Int} {W W' : World} (h : InvR w g m cap N es fa v o W) (hb : Below W.heap.size W W') : InvR w g m cap N es fa v o W' :=
 ⟨Kd.R_below h.t hb, Kd.R_below h.o hb, below_step h.b hb⟩
theorem InvR.found {w : World} {g m cap N : Nat} {es : List S78} {fa : Int} {v v1 : Value} {o o1 : List Int} {W W1 : World} (h : InvR w g m cap N es fa v o W) (ho : Kd.R (Kd.int .i64) 3 W1 w.heap.size (fun _ => True) v1 o1) (hb : Below w.heap.size w W1) (hg : W.grownBy W1 v.ownBlock)
  (hat : v1.ownBlock = v.ownBlock ∨ ∃ b, v1.ownBlock = some b ∧ W.heap.size ≤ b) : InvR w g m cap N es fa v1 o1 W1 :=
 ⟨Kd.R_mono (Kd.R_after (ok := fun _ => True) (Kd.R_mono h.t (fun k hk => ⟨trivial, hk⟩)) hg hat) (fun k hk => hk.2), ho, hb⟩
set_option maxHeartbeats 8000000 in
set_option maxRecDepth 100000 in
theorem r14_Cycle.calls (k : Nat) (a0 : Int) (A1 : Option Addr) (c1 : Nat) (l1 : List (S54)) (r1 : List Int) (r2 : Int) (w : World) (hr1 : Kd.C k54 w A1 l1.length l1) (hc1 : l1.length ≤ c1) (h : r14_Cycle.f k a0 l1 = some (r1, r2)) :
  Calls Try.prog 16 #[.int .i64 a0, .slice A1 l1.length c1] w fun e w' => ∃ v0_ : Value, e = .returned (.tuple #[v0_, .int .i64 r2]) ∧ Kd.R (Kd.int .i64) 3 w' w.heap.size (fun _ => True) v0_ r1 ∧ Below w.heap.size w w' := by
 have hS := Option.some.inj h
 clear h
 obtain ⟨kV, hV⟩ := (valid_f a0 l1).rounds
 by_cases hv : validS a0 (l1.map o55) = 0
 ·rw [if_pos hv] at hS
  rw [hv] at hV
  obtain ⟨n0, n1, ll, hok⟩ := validS_ok hv
  rw [List.length_map] at ll
  obtain ⟨N, rfl⟩ := Int.eq_ofNat_of_zero_le n0
  rw [Int.toNat_natCast] at hS hok
  have hcall := r14_Valid.calls kV (N : Int) A1 c1 l1 0 w hr1 hc1 hV
  obtain ⟨es, hes⟩ : ∃ es, (l1.map o55).map (edgeOf (N : Int)) = es := ⟨_, rfl⟩
  have HES := Aside0.mk hes
  have HEL := Aside0.mk (show es.length = l1.length by rw [← hes]; simp)
  rw [hes] at hS hok
  clear hes hV hv
  have HR1 := Aside0.mk hr1
  clear hr1
  have HWN := Aside0.mk (wrapOk ((N : Int) + 1) (by omega) (by omega))
  have HSS := Aside0.mk hS
  clear hS
  go_enter Try.func16, Try.ntmps16
  go_wp2_with fail
  refine hcall.mono ?_
  rintro e w2 ⟨rfl, hb2⟩
  have HB2 := Aside0.mk hb2
  clear hb2 hcall
  go_wp2_with fail
  go_loopw [7] (fun v7 wr => ∃ m : Nat, 2 ≤ m ∧ m ≤ N + 2 ∧ v7 = .int .i64 (m : Int) ∧ cycMany N es (N + 2 - m) m = cycMany N es N 2 ∧ Below w.heap.size w wr)
   (fun v7 _ => N + 3 - (intOf v7).toNat)
  case atStart => exact ⟨2, by omega, by omega, rfl, rfl, HB2.out⟩
  case round =>
   clear HB2
   obtain ⟨m, hm2, hm, rfl, hC, hb⟩ := hrel
   have HB := Aside0.mk hb
   have HM := Aside0.mk hC
   clear hb hC
   have hwn := HWN.out
   by_cases hlt : (m : Int) ≤ (N : Int) + 1
   ·have hlt1 : decide ((m : Int) ≤ (N : Int) + 1) = true := decide_eq_true hlt
    have HMM := Aside0.mk (cycMany_step N es (N + 2 - m) m (by omega))
    go_wp2_with fail
    clear hwn
    go_loopw [8] (fun v8 wi => ∃ f : Nat, f ≤ l1.length ∧ v8 = .int .i64 (f : Int) ∧ cycFirst N es m (es.length - f) f = cycFirst N es m es.length 0 ∧ Below w.heap.size w wi)
     (fun v8 _ => l1.length - (intOf v8).toNat)
    case atStart => exact ⟨0, by omega, rfl, rfl, HB.out⟩
    case round =>
     clear HB
     obtain ⟨f, hf, rfl, hF, hb⟩ := hrel
     have HB := Aside0.mk hb
     have HF := Aside0.mk hF
     clear hb hF
     by_cases hlf : (f : Int) < (l1.length : Int)
     ·have hlf1 : decide ((f : Int) < (l1.length : Int)) = true := decide_eq_true hlf
      have hfl : f < l1.length := by omega
      have hst := cycFirst_step N es m (es.length - f) f (by have := HEL.out; omega) (by have := HEL.out; omega)
      rw [HF.out] at hst
      have HST := Aside0.mk hst
      have hE : rd_T78 es (f : Int) = edgeOf (N : Int) (o55 l1[f]) := by
       have := edge_at (N : Int) l1 0 f (by omega)
       rw [List.drop_zero, HES.out] at this
       simpa using this
      have hx := hok _ (mem_rd (es := es) (j := f) (by have := HEL.out; omega))
      obtain ⟨ad, eA, hx0, hx1, hx2⟩ := at_T54 (Kd.C_below HR1.out HB.out) (f : Int) (by omega) hlf
      subst eA
      rw [rd54 hfl] at hx0 hx1 hx2
      simp only [Int.toNat_natCast] at hx0 hx1 hx2
      obtain ⟨x, hxx⟩ : ∃ x, l1[f] = x := ⟨_, rfl⟩
      rw [hxx] at hx0 hx1 hx2 hE
      rw [hE] at hx
      obtain ⟨o1, o2, o3, o4, o5, o6⟩ := hx
      obtain ⟨fa, hfa⟩ := Int.eq_ofNat_of_zero_le o1
      obtain ⟨fb, hfb⟩ := Int.eq_ofNat_of_zero_le o3
      have hfa' : rowOf (N : Int) x.f0 = (fa : Int) := hfa
      have hfb' : rowOf (N : Int) x.f1 = (fb : Int) := hfb
      rw [hfa] at o2
      rw [hfb] at o4
      have hfb1 : fb < N + 1 := by omega
      have hE2 : rd_T78 es (f : Int) = ⟨(fa : Int), (fb : Int), x.f2⟩ := by
       rw [hE]
       simp only [edgeOf, o55]
       rw [hfa', hfb']
      have HCS0 := Aside0.mk (cycleS_eq N es f m _ hE2)
      clear hE2
      have OO := Aside0.mk (show -2097152 ≤ x.f2 ∧ x.f2 ≤ 2097152 from ⟨o5, o6⟩)
      have hra := r14_row.calls (N : Int) x.f0 (fa : Int)
      have hrb := r14_row.calls (N : Int) x.f1 (fb : Int)
      have ha : r14_row.f (N : Int) x.f0 = some (fa : Int) := by rw [row_f, hfa']
      have hb : r14_row.f (N : Int) x.f1 = some (fb : Int) := by rw [row_f, hfb']
      obtain ⟨kB, hB⟩ := (back_f N (by omega) l1 ll (by rw [HES.out]; exact hok) f fa m (by omega) (by omega) hfl (by omega)).rounds
      rw [HES.out] at hB
      have HBK := Aside0.mk hB
      have HFA := Aside0.mk hfa
      have HFB := Aside0.mk hfb
      have HRA := Aside0.mk (And.intro ha hb)
      have hwm : wrap64 ((m : Int) - 1) = (m : Int) - 1 := wrapOk _ (by omega) (by omega)
      clear hE o1 o2 o3 o4 o5 o6 hB hst hfa hfb hfa' hfb' ha hb hxx
      generalize x.f0 = x0 at *
      generalize x.f1 = x1 at *
      generalize x.f2 = xn at *
      have HX := Aside0.mk (And.intro hx0 (And.intro hx1 hx2))
      go_wp2_with fail
      refine (hra _ HRA.out.1).mono ?_
      rintro e w3 ⟨rfl, nd, rfl⟩
      clear hra
      go_wp2_with fail
      refine (r14_back.calls kB (N : Int) (some ad) c1 l1 (f : Int) (fa : Int) ((m : Int) - 1) _ _ (Kd.C_drewN (Kd.C_below HR1.out HB.out) nd) hc1 HBK.out).mono ?_
      rintro e w4 ⟨v4, rfl, ho, hb4⟩
      have hR := Kd.S_R ho
      obtain ⟨g, cap, e4, hg, -⟩ := Kd.R_form hR (by rw [tab_len]; omega)
      rw [tab_len] at e4
      subst e4
      have hbd : Below wr.heap.size wr (wr.drewN nd) := pw_below_drewN (Below.refl _ _) nd
      have hz := HB.out.size
      have HT := Aside0.mk (Kd.R_lower hR (base' := w.heap.size) (Nat.le_trans HB.out.size hbd.size))
      have hbr := below_step hbd hb4
      have g0 := (hbr.cell (World.block_lt_of_cell? wr _ HX.out.1)).trans HX.out.1
      have g1 := (hbr.cell (World.block_lt_of_cell? wr _ HX.out.2.1)).trans HX.out.2.1
      have g2 := (hbr.cell (World.block_lt_of_cell? wr _ HX.out.2.2)).trans HX.out.2.2
      have HB4 := Aside0.mk (below_step HB.out hbr)
      clear ho hR hb4 hbd hbr hx0 hx1 hx2 hg hz
      go_wp2_with fail
      refine (hrb _ HRA.out.2).mono ?_
      rintro e w5 ⟨rfl, nd2, rfl⟩
      clear hrb
      have hm1' : m - 1 < m := by omega
      have HT5 := Aside0.mk (Kd.R_drewN HT.out nd2)
      have HB5 := Aside0.mk (pw_below_drewN HB4.out nd2)
      obtain ⟨adx, cx, hc1x, hc2x⟩ := tab_cells HT5.out (m - 1) fb hm1' hfb1
      have g2' : (w4.drewN nd2).cell? ⟨(ad.add (f * 3)).block, (ad.add (f * 3)).off + 2, none⟩ = some (.int .i64 xn) := g2
      obtain ⟨w6, hw6⟩ : ∃ w6, w4.drewN nd2 = w6 := ⟨_, rfl⟩
      rw [hw6] at HT5 HB5 hc1x hc2x g2'
      rw [hw6]
      clear hw6 HT HB4 g0 g1 g2 HB
      obtain ⟨X, hX⟩ : ∃ X, rd (ways N (es.drop (f + 1)) fa (m - 1)) (fb : Int) = X := ⟨_, rfl⟩
      have hXB := ways_bd (hok.drop (f + 1)) fa (m - 1) (fb : Int)
      rw [hX] at hc2x hXB
      have hCS := HCS0.out
      simp only [hX] at hCS
      rw [add_flat] at hc1x
      have p7 : (1 : Int) ≤ (m : Int) := by omega
      have p8 : (fb : Int) < (N : Int) + 1 := by omega
      have p9 : (m : Int) - 1 < (m : Int) := by omega
      have pF : FREE = 1099511627776 := rfl
      have hXB2 := hXB.1
      have hws : wrap64 (xn + X) = xn + X := wrapOk _ (by have := OO.out.1; omega) (by have := OO.out.2; have := hXB.2; omega)
      have HCS := Aside0.mk hCS
      have HT5' := HT5
      clear hX hXB hXB2 hCS HCS0
      by_cases hX1 : X < 1099511627776
      ·have dX : decide (1099511627776 ≤ X) = false := decide_eq_false (by omega)
       by_cases hS0 : xn + X < 0
       ·have dS : decide (0 ≤ xn + X) = false := decide_eq_false (by omega)
        have hcs := HCS.out
        rw [if_pos ⟨hX1, hS0⟩] at hcs
        have HCS2 := Aside0.mk hcs
        clear hcs HCS
        have hwm3 : wrap64 ((m : Int) - 2) = (m : Int) - 2 := wrapOk _ (by omega) (by omega)
        go_wp2_with fail
        have hk6 : (w6.alloc (Obj.cells #[Value.int IntKind.i64 (f : Int)] 3)).heap[w6.heap.size]? = some (.cells #[Value.int IntKind.i64 (f : Int)] 3 (0, 0)) := blk_new _ _
        have hIr : InvR w g m cap N (es.drop (f + 1)) fa (.slice (some ⟨w6.heap.size, 0, none⟩) 1 1) [(f : Int)] (w6.alloc (Obj.cells #[Value.int IntKind.i64 (f : Int)] 3)) := by
         refine ⟨Kd.R_mono (Kd.R_alloc (Kd.R_bound HT5.out) _) (fun k hk => ?_), Kd.R_of_own (enc := Value.int .i64) (h1 := fun _ => rfl) ⟨rfl, .inr ⟨w6.heap.size, 1, #[.int .i64 (f : Int)], rfl, HB5.out.size, hk6, Nat.le_refl _, by simp [maxLen], rfl, rfl⟩⟩ (fun _ _ => trivial), below_alloc HB5.out _⟩
         have := hk.2.2.1
         simp only [Value.ownBlock]
         intro he
         injection he with he
         omega
        have HI0 := Aside0.mk hIr
        clear hIr hk6 HT5 HT5' HB5 hwm3 hws hc1x hc2x g2' dX dS
        obtain ⟨E, hEd⟩ : ∃ E, es.drop (f + 1) = E := ⟨_, rfl⟩
        have hoE : OkE N E := by rw [← hEd]; exact hok.drop _
        rw [hEd] at HI0 HCS2
        have HED := Aside0.mk hEd
        have HDL := Aside0.mk (show E.length + (f + 1) = l1.length by rw [← hEd, List.length_drop]; have := HEL.out; omega)
        clear hEd
        go_loopw [10, 11, 12, 13] (fun v10 v11 v12 v13 wr => ∃ (q at_ : Nat) (z sum : Int) (o : List Int), q ≤ m - 1 ∧ at_ ≤ N ∧ z + 1 = (q : Int) ∧ v13 = .int .i64 z ∧ v10 = .int .i64 (at_ : Int) ∧ v11 = .int .i64 sum ∧ InvR w g m cap N E fa v12 o wr ∧
          1 ≤ o.length ∧ o.length + q ≤ m ∧ -(((m - q : Nat) : Int) * 2097152) ≤ sum ∧ sum ≤ ((m - q : Nat) : Int) * 2097152 ∧ goOn N E fa (f + 1) q at_ sum o = goOn N E fa (f + 1) (m - 1) fb xn [(f : Int)])
         (fun _ _ _ v13 _ => (intOf v13 + 1).toNat)
        case atStart => exact ⟨m - 1, fb, (m : Int) - 2, xn, [(f : Int)], by omega, by omega, by omega, rfl, rfl, rfl, HI0.out, by simp, by simp; omega, by have := OO.out.1; omega, by have := OO.out.2; omega, rfl⟩
        case round =>
         clear HI0
         obtain ⟨q, at_, z, sum, o, hq, hat_, hz, rfl, rfl, rfl, hI, ho1, ho2, hs1, hs2, hG⟩ := hrel
         have HI := Aside0.mk hI
         have HG := Aside0.mk hG
         have HSU := Aside0.mk (And.intro hs1 hs2)
         clear hI hG hs1 hs2
         obtain ⟨w13, hw13⟩ : ∃ w13, w13 = wr := ⟨_, rfl⟩
         subst hw13
         obtain ⟨vo, hvo⟩ : ∃ vo, vo = u12 := ⟨_, rfl⟩
         subst hvo
         by_cases hz0 : 0 ≤ z
         ·have dz : decide (0 ≤ z) = true := decide_eq_true hz0
          obtain ⟨s, rfl⟩ := Int.eq_ofNat_of_zero_le hz0
          have hqs : q = s + 1 := by omega
          subst hqs
          clear hz
          have p10 : (0 : Int) ≤ (s : Int) := hz0
          go_wp2_with fail
          go_loopw [10, 11, 12, 14] (fun v10 v11 v12 v14 wi => ∃ j : Nat, j ≤ E.length ∧ v12 = vo ∧ v10 = .int .i64 (at_ : Int) ∧ v11 = .int .i64 sum ∧ v14 = .int .i64 ((f + 1 + j : Nat) : Int) ∧ Below w13.heap.size w13 wi ∧
            nextE (ways N E fa s) at_ sum (E.drop j) (f + 1 + j) = nextE (ways N E fa s) at_ sum E (f + 1))
           (fun _ _ _ v14 _ => (l1.length : Int).toNat - (intOf v14).toNat)
          case atStart => exact ⟨0, by omega, rfl, rfl, rfl, by simp, Below.refl _ _, rfl⟩
          case round =>
           obtain ⟨j, hj, rfl, rfl, rfl, rfl, hb, hN⟩ := hrel
           have HN := Aside0.mk hN
           have HBR := Aside0.mk hb
           clear hb hN
           obtain ⟨w15, hw15⟩ : ∃ w15, w15 = wr := ⟨_, rfl⟩
           subst hw15
           have hDL := HDL.out
           by_cases hlj : j < E.length
           ·have hij0 : f + 1 + j < l1.length := by omega
            have hij : ((f + 1 + j : Nat) : Int) < (l1.length : Int) := by omega
            have hlj1 : decide (((f + 1 + j : Nat) : Int) < (l1.length : Int)) = true := decide_eq_true hij
            obtain ⟨ade, eA, gx0, gx1, gx2⟩ := at_T54 HR1.out ((f + 1 + j : Nat) : Int) (by omega) hij
            injection eA with eA
            subst eA
            simp only [Int.toNat_natCast] at gx0 gx1 gx2
            rw [rd54 hij0] at gx0 gx1 gx2
            have hE := edge_at (N : Int) l1 (f + 1) j hij0
            rw [HES.out, HED.out] at hE
            have hoF := hoE _ (mem_rd hlj)
            have hst := nextE_drop (ways N E fa s) at_ sum E (f + 1) j hlj
            rw [HN.out] at hst
            obtain ⟨x, hxx⟩ : ∃ x, l1[f + 1 + j] = x := ⟨_, rfl⟩
            rw [hxx] at gx0 gx1 gx2 hE
            rw [hE] at hoF
            simp only [edgeOf, o55] at hoF
            obtain ⟨o1, o2, o3, o4, o5, o6⟩ := hoF
            obtain ⟨ya, hya⟩ := Int.eq_ofNat_of_zero_le o1
            obtain ⟨yb, hyb⟩ := Int.eq_ofNat_of_zero_le o3
            rw [hya] at o2
            rw [hyb] at o4
            have hE2 : rd_T78 E (j : Int) = ⟨(ya : Int), (yb : Int), x.f2⟩ := by
             rw [hE]
             simp only [edgeOf, o55]
             rw [hya, hyb]
            rw [hE2] at hst
            simp only at hst
            clear hE2
            have hra := r14_row.calls (N : Int) x.f0 (ya : Int)
            have hrb := r14_row.calls (N : Int) x.f1 (yb : Int)
            have HRA := Aside0.mk (show r14_row.f (N : Int) x.f0 = some (ya : Int) ∧ r14_row.f (N : Int) x.f1 = some (yb : Int) from ⟨by rw [row_f, hya], by rw [row_f, hyb]⟩)
            have OX := Aside0.mk (And.intro o5 o6)
            have HST3 := Aside0.mk hst
            have hyb1 : yb < N + 1 := by omega
            have hyb2 : (yb : Int) < (N : Int) + 1 := by omega
            have hsm : s < m := by omega
            have hsm2 : (s : Int) < (m : Int) := by omega
            have etn : ((f : Int) + 1 + (j : Int)).toNat = f + 1 + j := by omega
            have hij2 : (f : Int) + 1 + (j : Int) < (l1.length : Int) := by omega
            have hij3 : decide ((f : Int) + 1 + (j : Int) < (l1.length : Int)) = true := decide_eq_true hij2
            have hij4 : 0 ≤ (f : Int) + 1 + (j : Int) := by omega
            have hyq : (ya : Int) ≤ (N : Int) := o2
            clear o1 o2 o3 o4 o5 o6 hya hyb hst hE hxx hDL
            generalize x.f0 = z0 at *
            generalize x.f1 = z1 at *
            generalize x.f2 = xn' at *
            have GX := Aside0.mk (And.intro gx0 (And.intro gx1 gx2))
            clear gx0 gx1 gx2
            have hbw := below_step HI.out.b HBR.out
            have c1_ := (hbw.cell (World.block_lt_of_cell? w _ GX.out.2.1)).trans GX.out.2.1
            have HBW := Aside0.mk hbw
            clear hbw
            go_wp2_with fail
            refine (hrb _ HRA.out.2).mono ?_
            rintro e w16 ⟨rfl, nd, rfl⟩
            clear hrb c1_
            have HB16 := Aside0.mk (below_step HBR.out (pw_below_drewN (Below.refl _ _) nd))
            have c0_ := ((pw_below_drewN HBW.out nd).cell (World.block_lt_of_cell? w _ GX.out.1)).trans GX.out.1
            obtain ⟨w17, hw17⟩ : ∃ w17, w15.drewN nd = w17 := ⟨_, rfl⟩
            rw [hw17] at HB16 c0_ ⊢
            clear hw17
            have HI17 := Aside0.mk (InvR.below HI.out HB16.out)
            obtain ⟨adq, cq, hz1, hz2⟩ := tab_cells HI17.out.t s yb hsm hyb1
            rw [add_flat] at hz1
            obtain ⟨X2, hX2⟩ : ∃ X2, rd (ways N E fa s) (yb : Int) = X2 := ⟨_, rfl⟩
            have hXB := ways_bd hoE fa s (yb : Int)
            have hst := HST3.out
            rw [hX2] at hz2 hXB hst
            have c2_ := (HI17.out.b.cell (World.block_lt_of_cell? w _ GX.out.2.2)).trans GX.out.2.2
            have hwa : wrap64 (sum + xn') = sum + xn' := wrapOk _ (by have := HSU.out.1; have := OX.out.1; omega) (by have := HSU.out.2; have := OX.out.2; omega)
            have hwb : wrap64 (sum + xn' + X2) = sum + xn' + X2 := wrapOk _ (by have := HSU.out.1; have := OX.out.1; have := hXB.1; omega) (by have := HSU.out.2; have := OX.out.2; have := hXB.2; omega)
            have HOL : Aside0 (o.length ≤ 12) := ⟨by omega⟩
            clear hX2 hXB HST3
            by_cases hea : (ya : Int) = (at_ : Int)
            ·have dq : ((ya : Int) == (at_ : Int)) = true := by simp [hea]
             have dq2 : decide ((ya : Int) = (at_ : Int)) = true := decide_eq_true hea
             have HEA := Aside0.mk hea
             clear hea
             by_cases hXf : X2 < 1099511627776
             ·have dX2 : decide (X2 < 1099511627776) = true := decide_eq_true hXf
              by_cases hSS : sum + xn' + X2 < 0
              ·have dS2 : decide (sum + xn' + X2 < 0) = true := decide_eq_true hSS
               rw [if_pos ⟨HEA.out, hXf, hSS⟩] at hst
               have HST5 := Aside0.mk hst
               clear hst
               go_wp2_with fail
               refine start_ (n := 37) (S := fun w' : World => w'.cell? (ad.add ((f + 1 + j) * 3)) = some (.int .i64 z0) ∧ w'.cell? ⟨(ad.add ((f + 1 + j) * 3)).block, (ad.add ((f + 1 + j) * 3)).off + 2, none⟩ = some (.int .i64 xn') ∧ w'.cell? ⟨g, s, none⟩ = some (.slice (some adq) (N + 1) cq) ∧ w'.cell? (adq.add yb) = some (.int .i64 X2)) (ds := []) #[false, false, false, false, false, false, false, false, false, false, false, false, false, false, false, false, false, false, false, false, false, false, false, false, false, false, false, false, false, false, false, false, false, false, false, false, false] (by kernel_rfl) rfl rfl (⟨c0_, c2_, hz1, hz2⟩) (fun hHeld => ?_)
               refine pure_ (i := 0) (N := (some 104)) (v := ?_) (a' := ?_) #[true, false, false, false, false, false, false, false, false, false, false, false, false, false, false, false, false, false, false, false, false, false, false, false, false, false, false, false, false, false, false, false, false, false, false, false, false] rfl rfl (by kernel_rfl) (fun _ _ _ h => h) (Or.inl ⟨by rfl, ?_⟩) ?_ ?_
               rotate_left
               ·intro w'
                go_simp
                with_reducible rfl
               rotate_left
               ·simp only [Act.put, spA]
                rfl
               refine pure_ (i := 1) (N := (some 105)) (v := ?_) (a' := ?_) #[true, true, false, false, false, false, false, false, false, false, false, false, false, false, false, false, false, false, false, false, false, false, false, false, false, false, false, false, false, false, false, false, false, false, false, false, false] rfl rfl (by kernel_rfl) (fun _ _ _ h => h) (Or.inl ⟨by rfl, ?_⟩) ?_ ?_
               rotate_left
               ·intro w'
                go_simp
                with_reducible rfl
               rotate_left
               ·simp only [Act.put, spA]
                rfl
               refine pure_ (i := 2) (N := (some 106)) (v := ?_) (a' := ?_) #[true, true, true, false, false, false, false, false, false, false, false, false, false, false, false, false, false, false, false, false, false, false, false, false, false, false, false, false, false, false, false, false, false, false, false, false, false] rfl rfl (by kernel_rfl) (fun _ _ _ h => h) (Or.inl ⟨by rfl, ?_⟩) ?_ ?_
               rotate_left
               ·intro w'
                go_simp
                with_reducible rfl
               rotate_left
               ·simp only [Act.put, spA]
                rfl
               refine pure_ (i := 3) (N := (some 107)) (v := ?_) (a' := ?_) #[true, true, true, true, false, false, false, false, false, false, false, false, false, false, false, false, false, false, false, false, false, false, false, false, false, false, false, false, false, false, false, false, false, false, false, false, false] rfl rfl (by kernel_rfl) (fun _ _ _ h => h) (Or.inl ⟨by rfl, ?_⟩) ?_ ?_
               rotate_left
               ·intro w'
                go_simp
                with_reducible rfl
               rotate_left
               ·simp only [Act.put, spA]
                rfl
               refine pure_ (i := 4) (N := (some 108)) (v := ?_) (a' := ?_) #[true, true, true, true, true, false, false, false, false, false, false, false, false, false, false, false, false, false, false, false, false, false, false, false, false, false, false, false, false, false, false, false, false, false, false, false, false] rfl rfl (by kernel_rfl) (fun _ _ _ h => h) (Or.inl ⟨by rfl, ?_⟩) ?_ ?_
               rotate_left
               ·intro w'
                go_simp
                with_reducible rfl
               rotate_left
               ·simp only [Act.put, spA]
                rfl
               refine take_ (i := 5) (N := (some 109)) (v := ?_) (a' := ?_) #[true, true, true, true, true, true, false, false, false, false, false, false, false, false, false, false, false, false, false, false, false, false, false, false, false, false, false, false, false, false, false, false, false, false, false, false, false] rfl rfl (by kernel_rfl) (fun _ _ _ h => h) (Or.inl ⟨by rfl, ?_⟩) hHeld ?_ ?_
               rotate_left
               ·rintro w' ⟨s0, s1, s2, s3⟩
                go_simp
                with_reducible rfl
               rotate_left
               ·simp only [Act.put, spA]
                rfl
               refine pure_ (i := 7) (N := (some 111)) (v := ?_) (a' := ?_) #[true, true, true, true, true, true, false, true, false, false, false, false, false, false, false, false, false, false, false, false, false, false, false, false, false, false, false, false, false, false, false, false, false, false, false, false, false] rfl rfl (by kernel_rfl) (fun _ _ _ h => h) (Or.inl ⟨by rfl, ?_⟩) ?_ ?_
               rotate_left
               ·intro w'
                go_simp
                with_reducible rfl
               rotate_left
               ·simp only [Act.put, spA]
                rfl
               refine one_ (i := 6) (N := some 110) #[true, true, true, true, true, true, true, true, false, false, false, false, false, false, false, false, false, false, false, false, false, false, false, false, false, false, false, false, false, false, false, false, false, false, false, false, false] rfl rfl (by kernel_rfl) (by decide) (fun K hK => ?_)
               refine goes_ Try.func34 (by kernel_rfl) rfl #[.int .i64 (N : Int), .int .i64 z0] (by rfl) rfl rfl (by (try simp only [List.map_toArray, List.map_cons, List.map_nil]); first | done | rfl) ?_
               refine (hra _ HRA.out.1).mono ?_
               rintro e w18 ⟨rfl, nd2, rfl⟩
               refine ⟨_, rfl, ?_⟩
               refine hK.out _ _ (⟨c0_, c2_, hz1, hz2⟩) (fun hHeld2 => ?_)
               clear hK K hHeld
               have HB18 := Aside0.mk (below_step HB16.out (pw_below_drewN (below_drew1 (Below.refl _ _)) nd2))
               obtain ⟨w19, hw19⟩ : ∃ w19, w17.drew.drewN nd2 = w19 := ⟨_, rfl⟩
               rw [hw19] at HB18 hHeld2 ⊢
               clear hw19
               have HI2 := Aside0.mk (InvR.below HI.out HB18.out)
               refine norm_ (a' := ?_) ?_ ?_
               rotate_left
               ·show Act.put _ (some 110) _ = _
                simp only [Act.put, spA]
                rfl
               refine pure_ (i := 8) (N := (some 112)) (v := ?_) (a' := ?_) #[true, true, true, true, true, true, true, true, true, false, false, false, false, false, false, false, false, false, false, false, false, false, false, false, false, false, false, false, false, false, false, false, false, false, false, false, false] rfl rfl (by kernel_rfl) (fun _ _ _ h => h) (Or.inl ⟨by rfl, ?_⟩) ?_ ?_
               rotate_left
               ·intro w'
                go_simp
                with_reducible rfl
               rotate_left
               ·simp only [Act.put, spA]
                rfl
               refine pure_ (i := 9) (N := (some 113)) (v := ?_) (a' := ?_) #[true, true, true, true, true, true, true, true, true, true, false, false, false, false, false, false, false, false, false, false, false, false, false, false, false, false, false, false, false, false, false, false, false, false, false, false, false] rfl rfl (by kernel_rfl) (fun _ _ _ h => h) (Or.inl ⟨by rfl, ?_⟩) ?_ ?_
               rotate_left
               ·intro w'
                go_simp
                with_reducible rfl
               rotate_left
               ·simp only [Act.put, spA]
                rfl
               refine pure_ (i := 10) (N := (some 114)) (v := ?_) (a' := ?_) #[true, true, true, true, true, true, true, true, true, true, true, false, false, false, false, false, false, false, false, false, false, false, false, false, false, false, false, false, false, false, false, false, false, false, false, false, false] rfl rfl (by kernel_rfl) (fun _ _ _ h => h) (Or.inl ⟨by rfl, ?_⟩) ?_ ?_
               rotate_left
               ·intro w'
                go_simp
                with_reducible rfl
               rotate_left
               ·simp only [Act.put, spA]
                rfl
               refine pure_ (i := 11) (N := (some 115)) (v := ?_) (a' := ?_) #[true, true, true, true, true, true, true, true, true, true, true, true, false, false, false, false, false, false, false, false, false, false, false, false, false, false, false, false, false, false, false, false, false, false, false, false, false] rfl rfl (by kernel_rfl) (fun _ _ _ h => h) (Or.inl ⟨by rfl, ?_⟩) ?_ ?_
               rotate_left
               ·intro w'
                go_simp
                with_reducible rfl
               rotate_left
               ·simp only [Act.put, spA]
                rfl
               refine pure_ (i := 12) (N := (some 116)) (v := ?_) (a' := ?_) #[true, true, true, true, true, true, true, true, true, true, true, true, true, false, false, false, false, false, false, false, false, false, false, false, false, false, false, false, false, false, false, false, false, false, false, false, false] rfl rfl (by kernel_rfl) (fun _ _ _ h => h) (Or.inl ⟨by rfl, ?_⟩) ?_ ?_
               rotate_left
               ·intro w'
                go_simp
                with_reducible rfl
               rotate_left
               ·simp only [Act.put, spA]
                rfl
               refine take_ (i := 13) (N := (some 117)) (v := ?_) (a' := ?_) #[true, true, true, true, true, true, true, true, true, true, true, true, true, true, false, false, false, false, false, false, false, false, false, false, false, false, false, false, false, false, false, false, false, false, false, false, false] rfl rfl (by kernel_rfl) (fun _ _ _ h => h) (Or.inl ⟨by rfl, ?_⟩) hHeld2 ?_ ?_
               rotate_left
               ·rintro w' ⟨s0, s1, s2, s3⟩
                go_simp
                with_reducible rfl
               rotate_left
               ·simp only [Act.put, spA]
                rfl
               refine pure_ (i := 14) (N := (some 118)) (v := ?_) (a' := ?_) #[true, true, true, true, true, true, true, true, true, true, true, true, true, true, true, false, false, false, false, false, false, false, false, false, false, false, false, false, false, false, false, false, false, false, false, false, false] rfl rfl (by kernel_rfl) (fun _ _ _ h => h) (Or.inl ⟨by rfl, ?_⟩) ?_ ?_
               rotate_left
               ·intro w'
                go_simp
                with_reducible rfl
               rotate_left
               ·simp only [Act.put, spA]
                rfl
               refine pure_ (i := 15) (N := (some 119)) (v := ?_) (a' := ?_) #[true, true, true, true, true, true, true, true, true, true, true, true, true, true, true, true, false, false, false, false, false, false, false, false, false, false, false, false, false, false, false, false, false, false, false, false, false] rfl rfl (by kernel_rfl) (fun _ _ _ h => h) (Or.inl ⟨by rfl, ?_⟩) ?_ ?_
               rotate_left
               ·intro w'
                go_simp
                with_reducible rfl
               rotate_left
               ·simp only [Act.put, spA]
                rfl
               refine take_ (i := 16) (N := (some 120)) (v := ?_) (a' := ?_) #[true, true, true, true, true, true, true, true, true, true, true, true, true, true, true, true, true, false, false, false, false, false, false, false, false, false, false, false, false, false, false, false, false, false, false, false, false] rfl rfl (by kernel_rfl) (fun _ _ _ h => h) (Or.inl ⟨by rfl, ?_⟩) hHeld2 ?_ ?_
               rotate_left
               ·rintro w' ⟨s0, s1, s2, s3⟩
                go_simp
                with_reducible rfl
               rotate_left
               ·simp only [Act.put, spA]
                rfl
               refine pure_ (i := 17) (N := (some 121)) (v := ?_) (a' := ?_) #[true, true, true, true, true, true, true, true, true, true, true, true, true, true, true, true, true, true, false, false, false, false, false, false, false, false, false, false, false, false, false, false, false, false, false, false, false] rfl rfl (by kernel_rfl) (fun _ _ _ h => h) (Or.inl ⟨by rfl, ?_⟩) ?_ ?_
               rotate_left
               ·intro w'
                go_simp
                with_reducible rfl
               rotate_left
               ·simp only [Act.put, spA]
                rfl
               refine pure_ (i := 18) (N := (some 122)) (v := ?_) (a' := ?_) #[true, true, true, true, true, true, true, true, true, true, true, true, true, true, true, true, true, true, true, false, false, false, false, false, false, false, false, false, false, false, false, false, false, false, false, false, false] rfl rfl (by kernel_rfl) (fun _ _ _ h => h) (Or.inl ⟨by rfl, ?_⟩) ?_ ?_
               rotate_left
               ·intro w'
                go_simp
                with_reducible rfl
               rotate_left
               ·simp only [Act.put, spA]
                rfl
               refine pure_ (i := 19) (N := (some 123)) (v := ?_) (a' := ?_) #[true, true, true, true, true, true, true, true, true, true, true, true, true, true, true, true, true, true, true, true, false, false, false, false, false, false, false, false, false, false, false, false, false, false, false, false, false] rfl rfl (by kernel_rfl) (fun _ _ _ h => h) (Or.inl ⟨by rfl, ?_⟩) ?_ ?_
               rotate_left
               ·intro w'
                go_simp
                with_reducible rfl
               rotate_left
               ·simp only [Act.put, spA]
                rfl
               refine pure_ (i := 20) (N := (some 124)) (v := ?_) (a' := ?_) #[true, true, true, true, true, true, true, true, true, true, true, true, true, true, true, true, true, true, true, true, true, false, false, false, false, false, false, false, false, false, false, false, false, false, false, false, false] rfl rfl (by kernel_rfl) (fun _ _ _ h => h) (Or.inl ⟨by rfl, ?_⟩) ?_ ?_
               rotate_left
               ·intro w'
                go_simp
                with_reducible rfl
               rotate_left
               ·simp only [Act.put, spA]
                rfl
               refine pure_ (i := 21) (N := (some 125)) (v := ?_) (a' := ?_) #[true, true, true, true, true, true, true, true, true, true, true, true, true, true, true, true, true, true, true, true, true, true, false, false, false, false, false, false, false, false, false, false, false, false, false, false, false] rfl rfl (by kernel_rfl) (fun _ _ _ h => h) (Or.inl ⟨by rfl, ?_⟩) ?_ ?_
               rotate_left
               ·intro w'
                go_simp
                with_reducible rfl
               rotate_left
               ·simp only [Act.put, spA]
                rfl
               refine pure_ (i := 22) (N := (some 126)) (v := ?_) (a' := ?_) #[true, true, true, true, true, true, true, true, true, true, true, true, true, true, true, true, true, true, true, true, true, true, true, false, false, false, false, false, false, false, false, false, false, false, false, false, false] rfl rfl (by kernel_rfl) (fun _ _ _ h => h) (Or.inl ⟨by rfl, ?_⟩) ?_ ?_
               rotate_left
               ·intro w'
                go_simp
                with_reducible rfl
               rotate_left
               ·simp only [Act.put, spA]
                rfl
               refine pure_ (i := 23) (N := (some 127)) (v := ?_) (a' := ?_) #[true, true, true, true, true, true, true, true, true, true, true, true, true, true, true, true, true, true, true, true, true, true, true, true, false, false, false, false, false, false, false, false, false, false, false, false, false] rfl rfl (by kernel_rfl) (fun _ _ _ h => h) (Or.inl ⟨by rfl, ?_⟩) ?_ ?_
               rotate_left
               ·intro w'
                go_simp
                with_reducible rfl
               rotate_left
               ·simp only [Act.put, spA]
                rfl
               refine pure_ (i := 24) (N := (some 128)) (v := ?_) (a' := ?_) #[true, true, true, true, true, true, true, true, true, true, true, true, true, true, true, true, true, true, true, true, true, true, true, true, true, false, false, false, false, false, false, false, false, false, false, false, false] rfl rfl (by kernel_rfl) (fun _ _ _ h => h) (Or.inl ⟨by rfl, ?_⟩) ?_ ?_
               rotate_left
               ·intro w'
                go_simp
                with_reducible rfl
               rotate_left
               ·simp only [Act.put, spA]
                rfl
               refine take_ (i := 25) (N := (some 129)) (v := ?_) (a' := ?_) #[true, true, true, true, true, true, true, true, true, true, true, true, true, true, true, true, true, true, true, true, true, true, true, true, true, true, false, false, false, false, false, false, false, false, false, false, false] rfl rfl (by kernel_rfl) (fun _ _ _ h => h) (Or.inl ⟨by rfl, ?_⟩) hHeld2 ?_ ?_
               rotate_left
               ·rintro w' ⟨s0, s1, s2, s3⟩
                go_simp
                with_reducible rfl
               rotate_left
               ·simp only [Act.put, spA]
                rfl
               refine pure_ (i := 26) (N := (some 130)) (v := ?_) (a' := ?_) #[true, true, true, true, true, true, true, true, true, true, true, true, true, true, true, true, true, true, true, true, true, true, true, true, true, true, true, false, false, false, false, false, false, false, false, false, false] rfl rfl (by kernel_rfl) (fun _ _ _ h => h) (Or.inl ⟨by rfl, ?_⟩) ?_ ?_
               rotate_left
               ·intro w'
                go_simp
                with_reducible rfl
               rotate_left
               ·simp only [Act.put, spA]
                rfl
               refine pure_ (i := 27) (N := (some 131)) (v := ?_) (a' := ?_) #[true, true, true, true, true, true, true, true, true, true, true, true, true, true, true, true, true, true, true, true, true, true, true, true, true, true, true, true, false, false, false, false, false, false, false, false, false] rfl rfl (by kernel_rfl) (fun _ _ _ h => h) (Or.inl ⟨by rfl, ?_⟩) ?_ ?_
               rotate_left
               ·intro w'
                go_simp
                with_reducible rfl
               rotate_left
               ·simp only [Act.put, spA]
                rfl
               refine pure_ (i := 28) (N := (some 132)) (v := ?_) (a' := ?_) #[true, true, true, true, true, true, true, true, true, true, true, true, true, true, true, true, true, true, true, true, true, true, true, true, true, true, true, true, true, false, false, false, false, false, false, false, false] rfl rfl (by kernel_rfl) (fun _ _ _ h => h) (Or.inl ⟨by rfl, ?_⟩) ?_ ?_
               rotate_left
               ·intro w'
                go_simp
                with_reducible rfl
               rotate_left
               ·simp only [Act.put, spA]
                rfl
               refine pure_ (i := 29) (N := (some 133)) (v := ?_) (a' := ?_) #[true, true, true, true, true, true, true, true, true, true, true, true, true, true, true, true, true, true, true, true, true, true, true, true, true, true, true, true, true, true, false, false, false, false, false, false, false] rfl rfl (by kernel_rfl) (fun _ _ _ h => h) (Or.inl ⟨by rfl, ?_⟩) ?_ ?_
               rotate_left
               ·intro w'
                go_simp
                with_reducible rfl
               rotate_left
               ·simp only [Act.put, spA]
                rfl
               refine take_ (i := 30) (N := (some 134)) (v := ?_) (a' := ?_) #[true, true, true, true, true, true, true, true, true, true, true, true, true, true, true, true, true, true, true, true, true, true, true, true, true, true, true, true, true, true, true, false, false, false, false, false, false] rfl rfl (by kernel_rfl) (fun _ _ _ h => h) (Or.inl ⟨by rfl, ?_⟩) hHeld2 ?_ ?_
               rotate_left
               ·rintro w' ⟨s0, s1, s2, s3⟩
                go_simp
                with_reducible rfl
               rotate_left
               ·simp only [Act.put, spA]
                rfl
               refine pure_ (i := 31) (N := (some 135)) (v := ?_) (a' := ?_) #[true, true, true, true, true, true, true, true, true, true, true, true, true, true, true, true, true, true, true, true, true, true, true, true, true, true, true, true, true, true, true, true, false, false, false, false, false] rfl rfl (by kernel_rfl) (fun _ _ _ h => h) (Or.inl ⟨by rfl, ?_⟩) ?_ ?_
               rotate_left
               ·intro w'
                go_simp
                with_reducible rfl
               rotate_left
               ·simp only [Act.put, spA]
                rfl
               refine pure_ (i := 32) (N := (some 136)) (v := ?_) (a' := ?_) #[true, true, true, true, true, true, true, true, true, true, true, true, true, true, true, true, true, true, true, true, true, true, true, true, true, true, true, true, true, true, true, true, true, false, false, false, false] rfl rfl (by kernel_rfl) (fun _ _ _ h => h) (Or.inl ⟨by rfl, ?_⟩) ?_ ?_
               rotate_left
               ·intro w'
                go_simp
                with_reducible rfl
               rotate_left
               ·simp only [Act.put, spA]
                rfl
               refine take_ (i := 33) (N := (some 137)) (v := ?_) (a' := ?_) #[true, true, true, true, true, true, true, true, true, true, true, true, true, true, true, true, true, true, true, true, true, true, true, true, true, true, true, true, true, true, true, true, true, true, false, false, false] rfl rfl (by kernel_rfl) (fun _ _ _ h => h) (Or.inl ⟨by rfl, ?_⟩) hHeld2 ?_ ?_
               rotate_left
               ·rintro w' ⟨s0, s1, s2, s3⟩
                go_simp
                with_reducible rfl
               rotate_left
               ·simp only [Act.put, spA]
                rfl
               refine pure_ (i := 34) (N := (some 138)) (v := ?_) (a' := ?_) #[true, true, true, true, true, true, true, true, true, true, true, true, true, true, true, true, true, true, true, true, true, true, true, true, true, true, true, true, true, true, true, true, true, true, true, false, false] rfl rfl (by kernel_rfl) (fun _ _ _ h => h) (Or.inl ⟨by rfl, ?_⟩) ?_ ?_
               rotate_left
               ·intro w'
                go_simp
                with_reducible rfl
               rotate_left
               ·simp only [Act.put, spA]
                rfl
               refine pure_ (i := 35) (N := (some 139)) (v := ?_) (a' := ?_) #[true, true, true, true, true, true, true, true, true, true, true, true, true, true, true, true, true, true, true, true, true, true, true, true, true, true, true, true, true, true, true, true, true, true, true, true, false] rfl rfl (by kernel_rfl) (fun _ _ _ h => h) (Or.inl ⟨by rfl, ?_⟩) ?_ ?_
               rotate_left
               ·intro w'
                go_simp
                with_reducible rfl
               rotate_left
               ·simp only [Act.put, spA]
                rfl
               refine pure_ (i := 36) (N := (some 140)) (v := ?_) (a' := ?_) #[true, true, true, true, true, true, true, true, true, true, true, true, true, true, true, true, true, true, true, true, true, true, true, true, true, true, true, true, true, true, true, true, true, true, true, true, true] rfl rfl (by kernel_rfl) (fun _ _ _ h => h) (Or.inl ⟨by rfl, ?_⟩) ?_ ?_
               rotate_left
               ·intro w'
                go_simp
                with_reducible rfl
               rotate_left
               ·simp only [Act.put, spA]
                rfl
               refine done_ (by kernel_rfl) ?_
               clear hHeld2
               go_wp2_with (first | ((with_reducible refine gate_builtin (b := .append) (xs := #[.tmp 141, .tmp 143]) rfl ?_); at_builtin; refine Kd.R_append (Kd.int .i64) (w0 := w) w.heap.size rfl (.tmp 141) (.tmp 143) 22 3 (.int .i64 0) 8 rfl Try.underlying22 info3 rfl (by decide) (by omega) u12 o ((f : Int) + 1 + (j : Int)) [.int .i64 ((f : Int) + 1 + (j : Int))] (fun _ => True) (fun _ => False) rfl rfl rfl (fun _ hk => hk.elim) (fun _ _ => trivial) HI2.out.o HI2.out.b (below_size HI2.out.b) ?aL ?_; (case aL => have := HOL.out; omega); intro v7 w7 ho hb hg hat; have HI7 := Aside0.mk (InvR.found HI2.out ho hb hg hat); have g7 := (hb.cell (World.block_lt_of_cell? w _ GX.out.2.2)).trans GX.out.2.2; clear ho hb hg hat))
               go_roundw
               case rel =>
                go_light
                have hg := HG.out
                rw [goOn_some _ _ _ _ _ _ _ _ _ _ HST5.out] at hg
                have hsu := HSU.out
                have hox := OX.out
                have ei : ((f + 1 + j : Nat) : Int) = (f : Int) + 1 + (j : Int) := by omega
                rw [ei] at hg
                refine ⟨s, yb, (s : Int) - 1, sum + xn', o ++ [(f : Int) + 1 + (j : Int)], by omega, by omega, by omega, by first | rfl | simp, rfl, by rw [hwa], HI7.out, by simp, by simp; omega, by omega, by omega, hg⟩
               case measure => go_light; simp [intOf]
              ·have dS2 : decide (sum + xn' + X2 < 0) = false := decide_eq_false hSS
               have hst2 := hst
               rw [if_neg (fun hh => hSS hh.2.2)] at hst2
               have HST4 := Aside0.mk hst2
               clear hst hst2
               go_wp2_with fail
               refine start_ (n := 37) (S := fun w' : World => w'.cell? (ad.add ((f + 1 + j) * 3)) = some (.int .i64 z0) ∧ w'.cell? ⟨(ad.add ((f + 1 + j) * 3)).block, (ad.add ((f + 1 + j) * 3)).off + 2, none⟩ = some (.int .i64 xn') ∧ w'.cell? ⟨g, s, none⟩ = some (.slice (some adq) (N + 1) cq) ∧ w'.cell? (adq.add yb) = some (.int .i64 X2)) (ds := []) #[false, false, false, false, false, false, false, false, false, false, false, false, false, false, false, false, false, false, false, false, false, false, false, false, false, false, false, false, false, false, false, false, false, false, false, false, false] (by kernel_rfl) rfl rfl (⟨c0_, c2_, hz1, hz2⟩) (fun hHeld => ?_)
               refine pure_ (i := 0) (N := (some 104)) (v := ?_) (a' := ?_) #[true, false, false, false, false, false, false, false, false, false, false, false, false, false, false, false, false, false, false, false, false, false, false, false, false, false, false, false, false, false, false, false, false, false, false, false, false] rfl rfl (by kernel_rfl) (fun _ _ _ h => h) (Or.inl ⟨by rfl, ?_⟩) ?_ ?_
               rotate_left
               ·intro w'
                go_simp
                with_reducible rfl
               rotate_left
               ·simp only [Act.put, spA]
                rfl
               refine pure_ (i := 1) (N := (some 105)) (v := ?_) (a' := ?_) #[true, true, false, false, false, false, false, false, false, false, false, false, false, false, false, false, false, false, false, false, false, false, false, false, false, false, false, false, false, false, false, false, false, false, false, false, false] rfl rfl (by kernel_rfl) (fun _ _ _ h => h) (Or.inl ⟨by rfl, ?_⟩) ?_ ?_
               rotate_left
               ·intro w'
                go_simp
                with_reducible rfl
               rotate_left
               ·simp only [Act.put, spA]
                rfl
               refine pure_ (i := 2) (N := (some 106)) (v := ?_) (a' := ?_) #[true, true, true, false, false, false, false, false, false, false, false, false, false, false, false, false, false, false, false, false, false, false, false, false, false, false, false, false, false, false, false, false, false, false, false, false, false] rfl rfl (by kernel_rfl) (fun _ _ _ h => h) (Or.inl ⟨by rfl, ?_⟩) ?_ ?_
               rotate_left
               ·intro w'
                go_simp
                with_reducible rfl
               rotate_left
               ·simp only [Act.put, spA]
                rfl
               refine pure_ (i := 3) (N := (some 107)) (v := ?_) (a' := ?_) #[true, true, true, true, false, false, false, false, false, false, false, false, false, false, false, false, false, false, false, false, false, false, false, false, false, false, false, false, false, false, false, false, false, false, false, false, false] rfl rfl (by kernel_rfl) (fun _ _ _ h => h) (Or.inl ⟨by rfl, ?_⟩) ?_ ?_
               rotate_left
               ·intro w'
                go_simp
                with_reducible rfl
               rotate_left
               ·simp only [Act.put, spA]
                rfl
               refine pure_ (i := 4) (N := (some 108)) (v := ?_) (a' := ?_) #[true, true, true, true, true, false, false, false, false, false, false, false, false, false, false, false, false, false, false, false, false, false, false, false, false, false, false, false, false, false, false, false, false, false, false, false, false] rfl rfl (by kernel_rfl) (fun _ _ _ h => h) (Or.inl ⟨by rfl, ?_⟩) ?_ ?_
               rotate_left
               ·intro w'
                go_simp
                with_reducible rfl
               rotate_left
               ·simp only [Act.put, spA]
                rfl
               refine take_ (i := 5) (N := (some 109)) (v := ?_) (a' := ?_) #[true, true, true, true, true, true, false, false, false, false, false, false, false, false, false, false, false, false, false, false, false, false, false, false, false, false, false, false, false, false, false, false, false, false, false, false, false] rfl rfl (by kernel_rfl) (fun _ _ _ h => h) (Or.inl ⟨by rfl, ?_⟩) hHeld ?_ ?_
               rotate_left
               ·rintro w' ⟨s0, s1, s2, s3⟩
                go_simp
                with_reducible rfl
               rotate_left
               ·simp only [Act.put, spA]
                rfl
               refine pure_ (i := 7) (N := (some 111)) (v := ?_) (a' := ?_) #[true, true, true, true, true, true, false, true, false, false, false, false, false, false, false, false, false, false, false, false, false, false, false, false, false, false, false, false, false, false, false, false, false, false, false, false, false] rfl rfl (by kernel_rfl) (fun _ _ _ h => h) (Or.inl ⟨by rfl, ?_⟩) ?_ ?_
               rotate_left
               ·intro w'
                go_simp
                with_reducible rfl
               rotate_left
               ·simp only [Act.put, spA]
                rfl
               refine one_ (i := 6) (N := some 110) #[true, true, true, true, true, true, true, true, false, false, false, false, false, false, false, false, false, false, false, false, false, false, false, false, false, false, false, false, false, false, false, false, false, false, false, false, false] rfl rfl (by kernel_rfl) (by decide) (fun K hK => ?_)
               refine goes_ Try.func34 (by kernel_rfl) rfl #[.int .i64 (N : Int), .int .i64 z0] (by rfl) rfl rfl (by (try simp only [List.map_toArray, List.map_cons, List.map_nil]); first | done | rfl) ?_
               refine (hra _ HRA.out.1).mono ?_
               rintro e w18 ⟨rfl, nd2, rfl⟩
               refine ⟨_, rfl, ?_⟩
               refine hK.out _ _ (⟨c0_, c2_, hz1, hz2⟩) (fun hHeld2 => ?_)
               clear hK K hHeld
               have HB18 := Aside0.mk (below_step HB16.out (pw_below_drewN (below_drew1 (Below.refl _ _)) nd2))
               obtain ⟨w19, hw19⟩ : ∃ w19, w17.drew.drewN nd2 = w19 := ⟨_, rfl⟩
               rw [hw19] at HB18 hHeld2 ⊢
               clear hw19
               have HI2 := Aside0.mk (InvR.below HI.out HB18.out)
               refine norm_ (a' := ?_) ?_ ?_
               rotate_left
               ·show Act.put _ (some 110) _ = _
                simp only [Act.put, spA]
                rfl
               refine pure_ (i := 8) (N := (some 112)) (v := ?_) (a' := ?_) #[true, true, true, true, true, true, true, true, true, false, false, false, false, false, false, false, false, false, false, false, false, false, false, false, false, false, false, false, false, false, false, false, false, false, false, false, false] rfl rfl (by kernel_rfl) (fun _ _ _ h => h) (Or.inl ⟨by rfl, ?_⟩) ?_ ?_
               rotate_left
               ·intro w'
                go_simp
                with_reducible rfl
               rotate_left
               ·simp only [Act.put, spA]
                rfl
               refine pure_ (i := 9) (N := (some 113)) (v := ?_) (a' := ?_) #[true, true, true, true, true, true, true, true, true, true, false, false, false, false, false, false, false, false, false, false, false, false, false, false, false, false, false, false, false, false, false, false, false, false, false, false, false] rfl rfl (by kernel_rfl) (fun _ _ _ h => h) (Or.inl ⟨by rfl, ?_⟩) ?_ ?_
               rotate_left
               ·intro w'
                go_simp
                with_reducible rfl
               rotate_left
               ·simp only [Act.put, spA]
                rfl
               refine pure_ (i := 10) (N := (some 114)) (v := ?_) (a' := ?_) #[true, true, true, true, true, true, true, true, true, true, true, false, false, false, false, false, false, false, false, false, false, false, false, false, false, false, false, false, false, false, false, false, false, false, false, false, false] rfl rfl (by kernel_rfl) (fun _ _ _ h => h) (Or.inl ⟨by rfl, ?_⟩) ?_ ?_
               rotate_left
               ·intro w'
                go_simp
                with_reducible rfl
               rotate_left
               ·simp only [Act.put, spA]
                rfl
               refine pure_ (i := 11) (N := (some 115)) (v := ?_) (a' := ?_) #[true, true, true, true, true, true, true, true, true, true, true, true, false, false, false, false, false, false, false, false, false, false, false, false, false, false, false, false, false, false, false, false, false, false, false, false, false] rfl rfl (by kernel_rfl) (fun _ _ _ h => h) (Or.inl ⟨by rfl, ?_⟩) ?_ ?_
               rotate_left
               ·intro w'
                go_simp
                with_reducible rfl
               rotate_left
               ·simp only [Act.put, spA]
                rfl
               refine pure_ (i := 12) (N := (some 116)) (v := ?_) (a' := ?_) #[true, true, true, true, true, true, true, true, true, true, true, true, true, false, false, false, false, false, false, false, false, false, false, false, false, false, false, false, false, false, false, false, false, false, false, false, false] rfl rfl (by kernel_rfl) (fun _ _ _ h => h) (Or.inl ⟨by rfl, ?_⟩) ?_ ?_
               rotate_left
               ·intro w'
                go_simp
                with_reducible rfl
               rotate_left
               ·simp only [Act.put, spA]
                rfl
               refine take_ (i := 13) (N := (some 117)) (v := ?_) (a' := ?_) #[true, true, true, true, true, true, true, true, true, true, true, true, true, true, false, false, false, false, false, false, false, false, false, false, false, false, false, false, false, false, false, false, false, false, false, false, false] rfl rfl (by kernel_rfl) (fun _ _ _ h => h) (Or.inl ⟨by rfl, ?_⟩) hHeld2 ?_ ?_
               rotate_left
               ·rintro w' ⟨s0, s1, s2, s3⟩
                go_simp
                with_reducible rfl
               rotate_left
               ·simp only [Act.put, spA]
                rfl
               refine pure_ (i := 14) (N := (some 118)) (v := ?_) (a' := ?_) #[true, true, true, true, true, true, true, true, true, true, true, true, true, true, true, false, false, false, false, false, false, false, false, false, false, false, false, false, false, false, false, false, false, false, false, false, false] rfl rfl (by kernel_rfl) (fun _ _ _ h => h) (Or.inl ⟨by rfl, ?_⟩) ?_ ?_
               rotate_left
               ·intro w'
                go_simp
                with_reducible rfl
               rotate_left
               ·simp only [Act.put, spA]
                rfl
               refine pure_ (i := 15) (N := (some 119)) (v := ?_) (a' := ?_) #[true, true, true, true, true, true, true, true, true, true, true, true, true, true, true, true, false, false, false, false, false, false, false, false, false, false, false, false, false, false, false, false, false, false, false, false, false] rfl rfl (by kernel_rfl) (fun _ _ _ h => h) (Or.inl ⟨by rfl, ?_⟩) ?_ ?_
               rotate_left
               ·intro w'
                go_simp
                with_reducible rfl
               rotate_left
               ·simp only [Act.put, spA]
                rfl
               refine take_ (i := 16) (N := (some 120)) (v := ?_) (a' := ?_) #[true, true, true, true, true, true, true, true, true, true, true, true, true, true, true, true, true, false, false, false, false, false, false, false, false, false, false, false, false, false, false, false, false, false, false, false, false] rfl rfl (by kernel_rfl) (fun _ _ _ h => h) (Or.inl ⟨by rfl, ?_⟩) hHeld2 ?_ ?_
               rotate_left
               ·rintro w' ⟨s0, s1, s2, s3⟩
                go_simp
                with_reducible rfl
               rotate_left
               ·simp only [Act.put, spA]
                rfl
               refine pure_ (i := 17) (N := (some 121)) (v := ?_) (a' := ?_) #[true, true, true, true, true, true, true, true, true, true, true, true, true, true, true, true, true, true, false, false, false, false, false, false, false, false, false, false, false, false, false, false, false, false, false, false, false] rfl rfl (by kernel_rfl) (fun _ _ _ h => h) (Or.inl ⟨by rfl, ?_⟩) ?_ ?_
               rotate_left
               ·intro w'
                go_simp
                with_reducible rfl
               rotate_left
               ·simp only [Act.put, spA]
                rfl
               refine pure_ (i := 18) (N := (some 122)) (v := ?_) (a' := ?_) #[true, true, true, true, true, true, true, true, true, true, true, true, true, true, true, true, true, true, true, false, false, false, false, false, false, false, false, false, false, false, false, false, false, false, false, false, false] rfl rfl (by kernel_rfl) (fun _ _ _ h => h) (Or.inl ⟨by rfl, ?_⟩) ?_ ?_
               rotate_left
               ·intro w'
                go_simp
                with_reducible rfl
               rotate_left
               ·simp only [Act.put, spA]
                rfl
               refine pure_ (i := 19) (N := (some 123)) (v := ?_) (a' := ?_) #[true, true, true, true, true, true, true, true, true, true, true, true, true, true, true, true, true, true, true, true, false, false, false, false, false, false, false, false, false, false, false, false, false, false, false, false, false] rfl rfl (by kernel_rfl) (fun _ _ _ h => h) (Or.inl ⟨by rfl, ?_⟩) ?_ ?_
               rotate_left
               ·intro w'
                go_simp
                with_reducible rfl
               rotate_left
               ·simp only [Act.put, spA]
                rfl
               refine pure_ (i := 20) (N := (some 124)) (v := ?_) (a' := ?_) #[true, true, true, true, true, true, true, true, true, true, true, true, true, true, true, true, true, true, true, true, true, false, false, false, false, false, false, false, false, false, false, false, false, false, false, false, false] rfl rfl (by kernel_rfl) (fun _ _ _ h => h) (Or.inl ⟨by rfl, ?_⟩) ?_ ?_
               rotate_left
               ·intro w'
                go_simp
                with_reducible rfl
               rotate_left
               ·simp only [Act.put, spA]
                rfl
               refine pure_ (i := 21) (N := (some 125)) (v := ?_) (a' := ?_) #[true, true, true, true, true, true, true, true, true, true, true, true, true, true, true, true, true, true, true, true, true, true, false, false, false, false, false, false, false, false, false, false, false, false, false, false, false] rfl rfl (by kernel_rfl) (fun _ _ _ h => h) (Or.inl ⟨by rfl, ?_⟩) ?_ ?_
               rotate_left
               ·intro w'
                go_simp
                with_reducible rfl
               rotate_left
               ·simp only [Act.put, spA]
                rfl
               refine pure_ (i := 22) (N := (some 126)) (v := ?_) (a' := ?_) #[true, true, true, true, true, true, true, true, true, true, true, true, true, true, true, true, true, true, true, true, true, true, true, false, false, false, false, false, false, false, false, false, false, false, false, false, false] rfl rfl (by kernel_rfl) (fun _ _ _ h => h) (Or.inl ⟨by rfl, ?_⟩) ?_ ?_
               rotate_left
               ·intro w'
                go_simp
                with_reducible rfl
               rotate_left
               ·simp only [Act.put, spA]
                rfl
               refine pure_ (i := 23) (N := (some 127)) (v := ?_) (a' := ?_) #[true, true, true, true, true, true, true, true, true, true, true, true, true, true, true, true, true, true, true, true, true, true, true, true, false, false, false, false, false, false, false, false, false, false, false, false, false] rfl rfl (by kernel_rfl) (fun _ _ _ h => h) (Or.inl ⟨by rfl, ?_⟩) ?_ ?_
               rotate_left
               ·intro w'
                go_simp
                with_reducible rfl
               rotate_left
               ·simp only [Act.put, spA]
                rfl
               refine pure_ (i := 24) (N := (some 128)) (v := ?_) (a' := ?_) #[true, true, true, true, true, true, true, true, true, true, true, true, true, true, true, true, true, true, true, true, true, true, true, true, true, false, false, false, false, false, false, false, false, false, false, false, false] rfl rfl (by kernel_rfl) (fun _ _ _ h => h) (Or.inl ⟨by rfl, ?_⟩) ?_ ?_
               rotate_left
               ·intro w'
                go_simp
                with_reducible rfl
               rotate_left
               ·simp only [Act.put, spA]
                rfl
               refine take_ (i := 25) (N := (some 129)) (v := ?_) (a' := ?_) #[true, true, true, true, true, true, true, true, true, true, true, true, true, true, true, true, true, true, true, true, true, true, true, true, true, true, false, false, false, false, false, false, false, false, false, false, false] rfl rfl (by kernel_rfl) (fun _ _ _ h => h) (Or.inl ⟨by rfl, ?_⟩) hHeld2 ?_ ?_
               rotate_left
               ·rintro w' ⟨s0, s1, s2, s3⟩
                go_simp
                with_reducible rfl
               rotate_left
               ·simp only [Act.put, spA]
                rfl
               refine pure_ (i := 26) (N := (some 130)) (v := ?_) (a' := ?_) #[true, true, true, true, true, true, true, true, true, true, true, true, true, true, true, true, true, true, true, true, true, true, true, true, true, true, true, false, false, false, false, false, false, false, false, false, false] rfl rfl (by kernel_rfl) (fun _ _ _ h => h) (Or.inl ⟨by rfl, ?_⟩) ?_ ?_
               rotate_left
               ·intro w'
                go_simp
                with_reducible rfl
               rotate_left
               ·simp only [Act.put, spA]
                rfl
               refine pure_ (i := 27) (N := (some 131)) (v := ?_) (a' := ?_) #[true, true, true, true, true, true, true, true, true, true, true, true, true, true, true, true, true, true, true, true, true, true, true, true, true, true, true, true, false, false, false, false, false, false, false, false, false] rfl rfl (by kernel_rfl) (fun _ _ _ h => h) (Or.inl ⟨by rfl, ?_⟩) ?_ ?_
               rotate_left
               ·intro w'
                go_simp
                with_reducible rfl
               rotate_left
               ·simp only [Act.put, spA]
                rfl
               refine pure_ (i := 28) (N := (some 132)) (v := ?_) (a' := ?_) #[true, true, true, true, true, true, true, true, true, true, true, true, true, true, true, true, true, true, true, true, true, true, true, true, true, true, true, true, true, false, false, false, false, false, false, false, false] rfl rfl (by kernel_rfl) (fun _ _ _ h => h) (Or.inl ⟨by rfl, ?_⟩) ?_ ?_
               rotate_left
               ·intro w'
                go_simp
                with_reducible rfl
               rotate_left
               ·simp only [Act.put, spA]
                rfl
               refine pure_ (i := 29) (N := (some 133)) (v := ?_) (a' := ?_) #[true, true, true, true, true, true, true, true, true, true, true, true, true, true, true, true, true, true, true, true, true, true, true, true, true, true, true, true, true, true, false, false, false, false, false, false, false] rfl rfl (by kernel_rfl) (fun _ _ _ h => h) (Or.inl ⟨by rfl, ?_⟩) ?_ ?_
               rotate_left
               ·intro w'
                go_simp
                with_reducible rfl
               rotate_left
               ·simp only [Act.put, spA]
                rfl
               refine take_ (i := 30) (N := (some 134)) (v := ?_) (a' := ?_) #[true, true, true, true, true, true, true, true, true, true, true, true, true, true, true, true, true, true, true, true, true, true, true, true, true, true, true, true, true, true, true, false, false, false, false, false, false] rfl rfl (by kernel_rfl) (fun _ _ _ h => h) (Or.inl ⟨by rfl, ?_⟩) hHeld2 ?_ ?_
               rotate_left
               ·rintro w' ⟨s0, s1, s2, s3⟩
                go_simp
                with_reducible rfl
               rotate_left
               ·simp only [Act.put, spA]
                rfl
               refine pure_ (i := 31) (N := (some 135)) (v := ?_) (a' := ?_) #[true, true, true, true, true, true, true, true, true, true, true, true, true, true, true, true, true, true, true, true, true, true, true, true, true, true, true, true, true, true, true, true, false, false, false, false, false] rfl rfl (by kernel_rfl) (fun _ _ _ h => h) (Or.inl ⟨by rfl, ?_⟩) ?_ ?_
               rotate_left
               ·intro w'
                go_simp
                with_reducible rfl
               rotate_left
               ·simp only [Act.put, spA]
                rfl
               refine pure_ (i := 32) (N := (some 136)) (v := ?_) (a' := ?_) #[true, true, true, true, true, true, true, true, true, true, true, true, true, true, true, true, true, true, true, true, true, true, true, true, true, true, true, true, true, true, true, true, true, false, false, false, false] rfl rfl (by kernel_rfl) (fun _ _ _ h => h) (Or.inl ⟨by rfl, ?_⟩) ?_ ?_
               rotate_left
               ·intro w'
                go_simp
                with_reducible rfl
               rotate_left
               ·simp only [Act.put, spA]
                rfl
               refine take_ (i := 33) (N := (some 137)) (v := ?_) (a' := ?_) #[true, true, true, true, true, true, true, true, true, true, true, true, true, true, true, true, true, true, true, true, true, true, true, true, true, true, true, true, true, true, true, true, true, true, false, false, false] rfl rfl (by kernel_rfl) (fun _ _ _ h => h) (Or.inl ⟨by rfl, ?_⟩) hHeld2 ?_ ?_
               rotate_left
               ·rintro w' ⟨s0, s1, s2, s3⟩
                go_simp
                with_reducible rfl
               rotate_left
               ·simp only [Act.put, spA]
                rfl
               refine pure_ (i := 34) (N := (some 138)) (v := ?_) (a' := ?_) #[true, true, true, true, true, true, true, true, true, true, true, true, true, true, true, true, true, true, true, true, true, true, true, true, true, true, true, true, true, true, true, true, true, true, true, false, false] rfl rfl (by kernel_rfl) (fun _ _ _ h => h) (Or.inl ⟨by rfl, ?_⟩) ?_ ?_
               rotate_left
               ·intro w'
                go_simp
                with_reducible rfl
               rotate_left
               ·simp only [Act.put, spA]
                rfl
               refine pure_ (i := 35) (N := (some 139)) (v := ?_) (a' := ?_) #[true, true, true, true, true, true, true, true, true, true, true, true, true, true, true, true, true, true, true, true, true, true, true, true, true, true, true, true, true, true, true, true, true, true, true, true, false] rfl rfl (by kernel_rfl) (fun _ _ _ h => h) (Or.inl ⟨by rfl, ?_⟩) ?_ ?_
               rotate_left
               ·intro w'
                go_simp
                with_reducible rfl
               rotate_left
               ·simp only [Act.put, spA]
                rfl
               refine pure_ (i := 36) (N := (some 140)) (v := ?_) (a' := ?_) #[true, true, true, true, true, true, true, true, true, true, true, true, true, true, true, true, true, true, true, true, true, true, true, true, true, true, true, true, true, true, true, true, true, true, true, true, true] rfl rfl (by kernel_rfl) (fun _ _ _ h => h) (Or.inl ⟨by rfl, ?_⟩) ?_ ?_
               rotate_left
               ·intro w'
                go_simp
                with_reducible rfl
               rotate_left
               ·simp only [Act.put, spA]
                rfl
               refine done_ (by kernel_rfl) ?_
               clear hHeld2
               go_wp2_with fail
               go_roundw
               case rel =>
                go_light
                exact ⟨j + 1, by omega, rfl, rfl, rfl, by simp; omega, HB18.out, HST4.out.symm⟩
               case measure => go_light; simp [intOf]; omega
             ·have dX2 : decide (X2 < 1099511627776) = false := decide_eq_false hXf
              have hst2 := hst
              rw [if_neg (fun hh => hXf hh.2.1)] at hst2
              have HST4 := Aside0.mk hst2
              clear hst hst2
              go_wp2_with fail
              refine start_ (n := 37) (S := fun w' : World => w'.cell? (ad.add ((f + 1 + j) * 3)) = some (.int .i64 z0) ∧ w'.cell? ⟨(ad.add ((f + 1 + j) * 3)).block, (ad.add ((f + 1 + j) * 3)).off + 2, none⟩ = some (.int .i64 xn') ∧ w'.cell? ⟨g, s, none⟩ = some (.slice (some adq) (N + 1) cq) ∧ w'.cell? (adq.add yb) = some (.int .i64 X2)) (ds := []) #[false, false, false, false, false, false, false, false, false, false, false, false, false, false, false, false, false, false, false, false, false, false, false, false, false, false, false, false, false, false, false, false, false, false, false, false, false] (by kernel_rfl) rfl rfl (⟨c0_, c2_, hz1, hz2⟩) (fun hHeld => ?_)
              refine pure_ (i := 0) (N := (some 104)) (v := ?_) (a' := ?_) #[true, false, false, false, false, false, false, false, false, false, false, false, false, false, false, false, false, false, false, false, false, false, false, false, false, false, false, false, false, false, false, false, false, false, false, false, false] rfl rfl (by kernel_rfl) (fun _ _ _ h => h) (Or.inl ⟨by rfl, ?_⟩) ?_ ?_
              rotate_left
              ·intro w'
               go_simp
               with_reducible rfl
              rotate_left
              ·simp only [Act.put, spA]
               rfl
              refine pure_ (i := 1) (N := (some 105)) (v := ?_) (a' := ?_) #[true, true, false, false, false, false, false, false, false, false, false, false, false, false, false, false, false, false, false, false, false, false, false, false, false, false, false, false, false, false, false, false, false, false, false, false, false] rfl rfl (by kernel_rfl) (fun _ _ _ h => h) (Or.inl ⟨by rfl, ?_⟩) ?_ ?_
              rotate_left
              ·intro w'
               go_simp
               with_reducible rfl
              rotate_left
              ·simp only [Act.put, spA]
               rfl
              refine pure_ (i := 2) (N := (some 106)) (v := ?_) (a' := ?_) #[true, true, true, false, false, false, false, false, false, false, false, false, false, false, false, false, false, false, false, false, false, false, false, false, false, false, false, false, false, false, false, false, false, false, false, false, false] rfl rfl (by kernel_rfl) (fun _ _ _ h => h) (Or.inl ⟨by rfl, ?_⟩) ?_ ?_
              rotate_left
              ·intro w'
               go_simp
               with_reducible rfl
              rotate_left
              ·simp only [Act.put, spA]
               rfl
              refine pure_ (i := 3) (N := (some 107)) (v := ?_) (a' := ?_) #[true, true, true, true, false, false, false, false, false, false, false, false, false, false, false, false, false, false, false, false, false, false, false, false, false, false, false, false, false, false, false, false, false, false, false, false, false] rfl rfl (by kernel_rfl) (fun _ _ _ h => h) (Or.inl ⟨by rfl, ?_⟩) ?_ ?_
              rotate_left
              ·intro w'
               go_simp
               with_reducible rfl
              rotate_left
              ·simp only [Act.put, spA]
               rfl
              refine pure_ (i := 4) (N := (some 108)) (v := ?_) (a' := ?_) #[true, true, true, true, true, false, false, false, false, false, false, false, false, false, false, false, false, false, false, false, false, false, false, false, false, false, false, false, false, false, false, false, false, false, false, false, false] rfl rfl (by kernel_rfl) (fun _ _ _ h => h) (Or.inl ⟨by rfl, ?_⟩) ?_ ?_
              rotate_left
              ·intro w'
               go_simp
               with_reducible rfl
              rotate_left
              ·simp only [Act.put, spA]
               rfl
              refine take_ (i := 5) (N := (some 109)) (v := ?_) (a' := ?_) #[true, true, true, true, true, true, false, false, false, false, false, false, false, false, false, false, false, false, false, false, false, false, false, false, false, false, false, false, false, false, false, false, false, false, false, false, false] rfl rfl (by kernel_rfl) (fun _ _ _ h => h) (Or.inl ⟨by rfl, ?_⟩) hHeld ?_ ?_
              rotate_left
              ·rintro w' ⟨s0, s1, s2, s3⟩
               go_simp
               with_reducible rfl
              rotate_left
              ·simp only [Act.put, spA]
               rfl
              refine pure_ (i := 7) (N := (some 111)) (v := ?_) (a' := ?_) #[true, true, true, true, true, true, false, true, false, false, false, false, false, false, false, false, false, false, false, false, false, false, false, false, false, false, false, false, false, false, false, false, false, false, false, false, false] rfl rfl (by kernel_rfl) (fun _ _ _ h => h) (Or.inl ⟨by rfl, ?_⟩) ?_ ?_
              rotate_left
              ·intro w'
               go_simp
               with_reducible rfl
              rotate_left
              ·simp only [Act.put, spA]
               rfl
              refine one_ (i := 6) (N := some 110) #[true, true, true, true, true, true, true, true, false, false, false, false, false, false, false, false, false, false, false, false, false, false, false, false, false, false, false, false, false, false, false, false, false, false, false, false, false] rfl rfl (by kernel_rfl) (by decide) (fun K hK => ?_)
              refine goes_ Try.func34 (by kernel_rfl) rfl #[.int .i64 (N : Int), .int .i64 z0] (by rfl) rfl rfl (by (try simp only [List.map_toArray, List.map_cons, List.map_nil]); first | done | rfl) ?_
              refine (hra _ HRA.out.1).mono ?_
              rintro e w18 ⟨rfl, nd2, rfl⟩
              refine ⟨_, rfl, ?_⟩
              refine hK.out _ _ (⟨c0_, c2_, hz1, hz2⟩) (fun hHeld2 => ?_)
              clear hK K hHeld
              have HB18 := Aside0.mk (below_step HB16.out (pw_below_drewN (below_drew1 (Below.refl _ _)) nd2))
              obtain ⟨w19, hw19⟩ : ∃ w19, w17.drew.drewN nd2 = w19 := ⟨_, rfl⟩
              rw [hw19] at HB18 hHeld2 ⊢
              clear hw19
              have HI2 := Aside0.mk (InvR.below HI.out HB18.out)
              refine norm_ (a' := ?_) ?_ ?_
              rotate_left
              ·show Act.put _ (some 110) _ = _
               simp only [Act.put, spA]
               rfl
              refine pure_ (i := 8) (N := (some 112)) (v := ?_) (a' := ?_) #[true, true, true, true, true, true, true, true, true, false, false, false, false, false, false, false, false, false, false, false, false, false, false, false, false, false, false, false, false, false, false, false, false, false, false, false, false] rfl rfl (by kernel_rfl) (fun _ _ _ h => h) (Or.inl ⟨by rfl, ?_⟩) ?_ ?_
              rotate_left
              ·intro w'
               go_simp
               with_reducible rfl
              rotate_left
              ·simp only [Act.put, spA]
               rfl
              refine pure_ (i := 9) (N := (some 113)) (v := ?_) (a' := ?_) #[true, true, true, true, true, true, true, true, true, true, false, false, false, false, false, false, false, false, false, false, false, false, false, false, false, false, false, false, false, false, false, false, false, false, false, false, false] rfl rfl (by kernel_rfl) (fun _ _ _ h => h) (Or.inl ⟨by rfl, ?_⟩) ?_ ?_
              rotate_left
              ·intro w'
               go_simp
               with_reducible rfl
              rotate_left
              ·simp only [Act.put, spA]
               rfl
              refine pure_ (i := 10) (N := (some 114)) (v := ?_) (a' := ?_) #[true, true, true, true, true, true, true, true, true, true, true, false, false, false, false, false, false, false, false, false, false, false, false, false, false, false, false, false, false, false, false, false, false, false, false, false, false] rfl rfl (by kernel_rfl) (fun _ _ _ h => h) (Or.inl ⟨by rfl, ?_⟩) ?_ ?_
              rotate_left
              ·intro w'
               go_simp
               with_reducible rfl
              rotate_left
              ·simp only [Act.put, spA]
               rfl
              refine pure_ (i := 11) (N := (some 115)) (v := ?_) (a' := ?_) #[true, true, true, true, true, true, true, true, true, true, true, true, false, false, false, false, false, false, false, false, false, false, false, false, false, false, false, false, false, false, false, false, false, false, false, false, false] rfl rfl (by kernel_rfl) (fun _ _ _ h => h) (Or.inl ⟨by rfl, ?_⟩) ?_ ?_
              rotate_left
              ·intro w'
               go_simp
               with_reducible rfl
              rotate_left
              ·simp only [Act.put, spA]
               rfl
              refine pure_ (i := 12) (N := (some 116)) (v := ?_) (a' := ?_) #[true, true, true, true, true, true, true, true, true, true, true, true, true, false, false, false, false, false, false, false, false, false, false, false, false, false, false, false, false, false, false, false, false, false, false, false, false] rfl rfl (by kernel_rfl) (fun _ _ _ h => h) (Or.inl ⟨by rfl, ?_⟩) ?_ ?_
              rotate_left
              ·intro w'
               go_simp
               with_reducible rfl
              rotate_left
              ·simp only [Act.put, spA]
               rfl
              refine take_ (i := 13) (N := (some 117)) (v := ?_) (a' := ?_) #[true, true, true, true, true, true, true, true, true, true, true, true, true, true, false, false, false, false, false, false, false, false, false, false, false, false, false, false, false, false, false, false, false, false, false, false, false] rfl rfl (by kernel_rfl) (fun _ _ _ h => h) (Or.inl ⟨by rfl, ?_⟩) hHeld2 ?_ ?_
              rotate_left
              ·rintro w' ⟨s0, s1, s2, s3⟩
               go_simp
               with_reducible rfl
              rotate_left
              ·simp only [Act.put, spA]
               rfl
              refine pure_ (i := 14) (N := (some 118)) (v := ?_) (a' := ?_) #[true, true, true, true, true, true, true, true, true, true, true, true, true, true, true, false, false, false, false, false, false, false, false, false, false, false, false, false, false, false, false, false, false, false, false, false, false] rfl rfl (by kernel_rfl) (fun _ _ _ h => h) (Or.inl ⟨by rfl, ?_⟩) ?_ ?_
              rotate_left
              ·intro w'
               go_simp
               with_reducible rfl
              rotate_left
              ·simp only [Act.put, spA]
               rfl
              refine pure_ (i := 15) (N := (some 119)) (v := ?_) (a' := ?_) #[true, true, true, true, true, true, true, true, true, true, true, true, true, true, true, true, false, false, false, false, false, false, false, false, false, false, false, false, false, false, false, false, false, false, false, false, false] rfl rfl (by kernel_rfl) (fun _ _ _ h => h) (Or.inl ⟨by rfl, ?_⟩) ?_ ?_
              rotate_left
              ·intro w'
               go_simp
               with_reducible rfl
              rotate_left
              ·simp only [Act.put, spA]
               rfl
              refine take_ (i := 16) (N := (some 120)) (v := ?_) (a' := ?_) #[true, true, true, true, true, true, true, true, true, true, true, true, true, true, true, true, true, false, false, false, false, false, false, false, false, false, false, false, false, false, false, false, false, false, false, false, false] rfl rfl (by kernel_rfl) (fun _ _ _ h => h) (Or.inl ⟨by rfl, ?_⟩) hHeld2 ?_ ?_
              rotate_left
              ·rintro w' ⟨s0, s1, s2, s3⟩
               go_simp
               with_reducible rfl
              rotate_left
              ·simp only [Act.put, spA]
               rfl
              refine pure_ (i := 17) (N := (some 121)) (v := ?_) (a' := ?_) #[true, true, true, true, true, true, true, true, true, true, true, true, true, true, true, true, true, true, false, false, false, false, false, false, false, false, false, false, false, false, false, false, false, false, false, false, false] rfl rfl (by kernel_rfl) (fun _ _ _ h => h) (Or.inl ⟨by rfl, ?_⟩) ?_ ?_
              rotate_left
              ·intro w'
               go_simp
               with_reducible rfl
              rotate_left
              ·simp only [Act.put, spA]
               rfl
              refine pure_ (i := 18) (N := (some 122)) (v := ?_) (a' := ?_) #[true, true, true, true, true, true, true, true, true, true, true, true, true, true, true, true, true, true, true, false, false, false, false, false, false, false, false, false, false, false, false, false, false, false, false, false, false] rfl rfl (by kernel_rfl) (fun _ _ _ h => h) (Or.inl ⟨by rfl, ?_⟩) ?_ ?_
              rotate_left
              ·intro w'
               go_simp
               with_reducible rfl
              rotate_left
              ·simp only [Act.put, spA]
               rfl
              refine pure_ (i := 19) (N := (some 123)) (v := ?_) (a' := ?_) #[true, true, true, true, true, true, true, true, true, true, true, true, true, true, true, true, true, true, true, true, false, false, false, false, false, false, false, false, false, false, false, false, false, false, false, false, false] rfl rfl (by kernel_rfl) (fun _ _ _ h => h) (Or.inl ⟨by rfl, ?_⟩) ?_ ?_
              rotate_left
              ·intro w'
               go_simp
               with_reducible rfl
              rotate_left
              ·simp only [Act.put, spA]
               rfl
              refine pure_ (i := 20) (N := (some 124)) (v := undef) (a' := ?_) #[true, true, true, true, true, true, true, true, true, true, true, true, true, true, true, true, true, true, true, true, true, false, false, false, false, false, false, false, false, false, false, false, false, false, false, false, false] rfl rfl (by kernel_rfl) (fun _ _ _ h => h) (Or.inr ⟨by rfl, rfl⟩) ?ha20 ?hh20
              case ha20 =>
               simp only [Act.put, spA]
               rfl
              refine pure_ (i := 21) (N := (some 125)) (v := undef) (a' := ?_) #[true, true, true, true, true, true, true, true, true, true, true, true, true, true, true, true, true, true, true, true, true, true, false, false, false, false, false, false, false, false, false, false, false, false, false, false, false] rfl rfl (by kernel_rfl) (fun _ _ _ h => h) (Or.inr ⟨by rfl, rfl⟩) ?ha21 ?hh21
              case ha21 =>
               simp only [Act.put, spA]
               rfl
              refine pure_ (i := 22) (N := (some 126)) (v := undef) (a' := ?_) #[true, true, true, true, true, true, true, true, true, true, true, true, true, true, true, true, true, true, true, true, true, true, true, false, false, false, false, false, false, false, false, false, false, false, false, false, false] rfl rfl (by kernel_rfl) (fun _ _ _ h => h) (Or.inr ⟨by rfl, rfl⟩) ?ha22 ?hh22
              case ha22 =>
               simp only [Act.put, spA]
               rfl
              refine pure_ (i := 23) (N := (some 127)) (v := undef) (a' := ?_) #[true, true, true, true, true, true, true, true, true, true, true, true, true, true, true, true, true, true, true, true, true, true, true, true, false, false, false, false, false, false, false, false, false, false, false, false, false] rfl rfl (by kernel_rfl) (fun _ _ _ h => h) (Or.inr ⟨by rfl, rfl⟩) ?ha23 ?hh23
              case ha23 =>
               simp only [Act.put, spA]
               rfl
              refine pure_ (i := 24) (N := (some 128)) (v := undef) (a' := ?_) #[true, true, true, true, true, true, true, true, true, true, true, true, true, true, true, true, true, true, true, true, true, true, true, true, true, false, false, false, false, false, false, false, false, false, false, false, false] rfl rfl (by kernel_rfl) (fun _ _ _ h => h) (Or.inr ⟨by rfl, rfl⟩) ?ha24 ?hh24
              case ha24 =>
               simp only [Act.put, spA]
               rfl
              refine pure_ (i := 25) (N := (some 129)) (v := undef) (a' := ?_) #[true, true, true, true, true, true, true, true, true, true, true, true, true, true, true, true, true, true, true, true, true, true, true, true, true, true, false, false, false, false, false, false, false, false, false, false, false] rfl rfl (by kernel_rfl) (fun _ _ _ h => h) (Or.inr ⟨by rfl, rfl⟩) ?ha25 ?hh25
              case ha25 =>
               simp only [Act.put, spA]
               rfl
              refine pure_ (i := 26) (N := (some 130)) (v := undef) (a' := ?_) #[true, true, true, true, true, true, true, true, true, true, true, true, true, true, true, true, true, true, true, true, true, true, true, true, true, true, true, false, false, false, false, false, false, false, false, false, false] rfl rfl (by kernel_rfl) (fun _ _ _ h => h) (Or.inr ⟨by rfl, rfl⟩) ?ha26 ?hh26
              case ha26 =>
               simp only [Act.put, spA]
               rfl
              refine pure_ (i := 27) (N := (some 131)) (v := undef) (a' := ?_) #[true, true, true, true, true, true, true, true, true, true, true, true, true, true, true, true, true, true, true, true, true, true, true, true, true, true, true, true, false, false, false, false, false, false, false, false, false] rfl rfl (by kernel_rfl) (fun _ _ _ h => h) (Or.inr ⟨by rfl, rfl⟩) ?ha27 ?hh27
              case ha27 =>
               simp only [Act.put, spA]
               rfl
              refine pure_ (i := 28) (N := (some 132)) (v := undef) (a' := ?_) #[true, true, true, true, true, true, true, true, true, true, true, true, true, true, true, true, true, true, true, true, true, true, true, true, true, true, true, true, true, false, false, false, false, false, false, false, false] rfl rfl (by kernel_rfl) (fun _ _ _ h => h) (Or.inr ⟨by rfl, rfl⟩) ?ha28 ?hh28
              case ha28 =>
               simp only [Act.put, spA]
               rfl
              refine pure_ (i := 29) (N := (some 133)) (v := undef) (a' := ?_) #[true, true, true, true, true, true, true, true, true, true, true, true, true, true, true, true, true, true, true, true, true, true, true, true, true, true, true, true, true, true, false, false, false, false, false, false, false] rfl rfl (by kernel_rfl) (fun _ _ _ h => h) (Or.inr ⟨by rfl, rfl⟩) ?ha29 ?hh29
              case ha29 =>
               simp only [Act.put, spA]
               rfl
              refine pure_ (i := 30) (N := (some 134)) (v := undef) (a' := ?_) #[true, true, true, true, true, true, true, true, true, true, true, true, true, true, true, true, true, true, true, true, true, true, true, true, true, true, true, true, true, true, true, false, false, false, false, false, false] rfl rfl (by kernel_rfl) (fun _ _ _ h => h) (Or.inr ⟨by rfl, rfl⟩) ?ha30 ?hh30
              case ha30 =>
               simp only [Act.put, spA]
               rfl
              refine pure_ (i := 31) (N := (some 135)) (v := undef) (a' := ?_) #[true, true, true, true, true, true, true, true, true, true, true, true, true, true, true, true, true, true, true, true, true, true, true, true, true, true, true, true, true, true, true, true, false, false, false, false, false] rfl rfl (by kernel_rfl) (fun _ _ _ h => h) (Or.inr ⟨by rfl, rfl⟩) ?ha31 ?hh31
              case ha31 =>
               simp only [Act.put, spA]
               rfl
              refine pure_ (i := 32) (N := (some 136)) (v := undef) (a' := ?_) #[true, true, true, true, true, true, true, true, true, true, true, true, true, true, true, true, true, true, true, true, true, true, true, true, true, true, true, true, true, true, true, true, true, false, false, false, false] rfl rfl (by kernel_rfl) (fun _ _ _ h => h) (Or.inr ⟨by rfl, rfl⟩) ?ha32 ?hh32
              case ha32 =>
               simp only [Act.put, spA]
               rfl
              refine pure_ (i := 33) (N := (some 137)) (v := undef) (a' := ?_) #[true, true, true, true, true, true, true, true, true, true, true, true, true, true, true, true, true, true, true, true, true, true, true, true, true, true, true, true, true, true, true, true, true, true, false, false, false] rfl rfl (by kernel_rfl) (fun _ _ _ h => h) (Or.inr ⟨by rfl, rfl⟩) ?ha33 ?hh33
              case ha33 =>
               simp only [Act.put, spA]
               rfl
              refine pure_ (i := 34) (N := (some 138)) (v := undef) (a' := ?_) #[true, true, true, true, true, true, true, true, true, true, true, true, true, true, true, true, true, true, true, true, true, true, true, true, true, true, true, true, true, true, true, true, true, true, true, false, false] rfl rfl (by kernel_rfl) (fun _ _ _ h => h) (Or.inr ⟨by rfl, rfl⟩) ?ha34 ?hh34
              case ha34 =>
               simp only [Act.put, spA]
               rfl
              refine pure_ (i := 35) (N := (some 139)) (v := undef) (a' := ?_) #[true, true, true, true, true, true, true, true, true, true, true, true, true, true, true, true, true, true, true, true, true, true, true, true, true, true, true, true, true, true, true, true, true, true, true, true, false] rfl rfl (by kernel_rfl) (fun _ _ _ h => h) (Or.inr ⟨by rfl, rfl⟩) ?ha35 ?hh35
              case ha35 =>
               simp only [Act.put, spA]
               rfl
              refine pure_ (i := 36) (N := (some 140)) (v := ?_) (a' := ?_) #[true, true, true, true, true, true, true, true, true, true, true, true, true, true, true, true, true, true, true, true, true, true, true, true, true, true, true, true, true, true, true, true, true, true, true, true, true] rfl rfl (by kernel_rfl) (fun _ _ _ h => h) (Or.inl ⟨by rfl, ?_⟩) ?_ ?_
              rotate_left
              ·intro w'
               go_simp
               with_reducible rfl
              rotate_left
              ·simp only [Act.put, spA]
               rfl
              refine done_ (by kernel_rfl) ?_
              clear hHeld2
              go_wp2_with fail
              go_roundw
              case rel =>
               go_light
               exact ⟨j + 1, by omega, rfl, rfl, rfl, by simp; omega, HB18.out, HST4.out.symm⟩
              case measure => go_light; simp [intOf]; omega
            ·have dq : ((ya : Int) == (at_ : Int)) = false := by simp; omega
             have dq2 : decide ((ya : Int) = (at_ : Int)) = false := decide_eq_false hea
             have hea2 : ¬ ya = at_ := by omega
             have hst2 := hst
             rw [if_neg (fun hh => hea hh.1)] at hst2
             have HST4 := Aside0.mk hst2
             clear hst hst2
             go_wp2_with fail
             refine start_ (n := 37) (S := fun w' : World => w'.cell? (ad.add ((f + 1 + j) * 3)) = some (.int .i64 z0) ∧ w'.cell? ⟨(ad.add ((f + 1 + j) * 3)).block, (ad.add ((f + 1 + j) * 3)).off + 2, none⟩ = some (.int .i64 xn') ∧ w'.cell? ⟨g, s, none⟩ = some (.slice (some adq) (N + 1) cq) ∧ w'.cell? (adq.add yb) = some (.int .i64 X2)) (ds := []) #[false, false, false, false, false, false, false, false, false, false, false, false, false, false, false, false, false, false, false, false, false, false, false, false, false, false, false, false, false, false, false, false, false, false, false, false, false] (by kernel_rfl) rfl rfl (⟨c0_, c2_, hz1, hz2⟩) (fun hHeld => ?_)
             refine pure_ (i := 0) (N := (some 104)) (v := ?_) (a' := ?_) #[true, false, false, false, false, false, false, false, false, false, false, false, false, false, false, false, false, false, false, false, false, false, false, false, false, false, false, false, false, false, false, false, false, false, false, false, false] rfl rfl (by kernel_rfl) (fun _ _ _ h => h) (Or.inl ⟨by rfl, ?_⟩) ?_ ?_
             rotate_left
             ·intro w'
              go_simp
              with_reducible rfl
             rotate_left
             ·simp only [Act.put, spA]
              rfl
             refine pure_ (i := 1) (N := (some 105)) (v := ?_) (a' := ?_) #[true, true, false, false, false, false, false, false, false, false, false, false, false, false, false, false, false, false, false, false, false, false, false, false, false, false, false, false, false, false, false, false, false, false, false, false, false] rfl rfl (by kernel_rfl) (fun _ _ _ h => h) (Or.inl ⟨by rfl, ?_⟩) ?_ ?_
             rotate_left
             ·intro w'
              go_simp
              with_reducible rfl
             rotate_left
             ·simp only [Act.put, spA]
              rfl
             refine pure_ (i := 2) (N := (some 106)) (v := ?_) (a' := ?_) #[true, true, true, false, false, false, false, false, false, false, false, false, false, false, false, false, false, false, false, false, false, false, false, false, false, false, false, false, false, false, false, false, false, false, false, false, false] rfl rfl (by kernel_rfl) (fun _ _ _ h => h) (Or.inl ⟨by rfl, ?_⟩) ?_ ?_
             rotate_left
             ·intro w'
              go_simp
              with_reducible rfl
             rotate_left
             ·simp only [Act.put, spA]
              rfl
             refine pure_ (i := 3) (N := (some 107)) (v := ?_) (a' := ?_) #[true, true, true, true, false, false, false, false, false, false, false, false, false, false, false, false, false, false, false, false, false, false, false, false, false, false, false, false, false, false, false, false, false, false, false, false, false] rfl rfl (by kernel_rfl) (fun _ _ _ h => h) (Or.inl ⟨by rfl, ?_⟩) ?_ ?_
             rotate_left
             ·intro w'
              go_simp
              with_reducible rfl
             rotate_left
             ·simp only [Act.put, spA]
              rfl
             refine pure_ (i := 4) (N := (some 108)) (v := ?_) (a' := ?_) #[true, true, true, true, true, false, false, false, false, false, false, false, false, false, false, false, false, false, false, false, false, false, false, false, false, false, false, false, false, false, false, false, false, false, false, false, false] rfl rfl (by kernel_rfl) (fun _ _ _ h => h) (Or.inl ⟨by rfl, ?_⟩) ?_ ?_
             rotate_left
             ·intro w'
              go_simp
              with_reducible rfl
             rotate_left
             ·simp only [Act.put, spA]
              rfl
             refine take_ (i := 5) (N := (some 109)) (v := ?_) (a' := ?_) #[true, true, true, true, true, true, false, false, false, false, false, false, false, false, false, false, false, false, false, false, false, false, false, false, false, false, false, false, false, false, false, false, false, false, false, false, false] rfl rfl (by kernel_rfl) (fun _ _ _ h => h) (Or.inl ⟨by rfl, ?_⟩) hHeld ?_ ?_
             rotate_left
             ·rintro w' ⟨s0, s1, s2, s3⟩
              go_simp
              with_reducible rfl
             rotate_left
             ·simp only [Act.put, spA]
              rfl
             refine pure_ (i := 7) (N := (some 111)) (v := ?_) (a' := ?_) #[true, true, true, true, true, true, false, true, false, false, false, false, false, false, false, false, false, false, false, false, false, false, false, false, false, false, false, false, false, false, false, false, false, false, false, false, false] rfl rfl (by kernel_rfl) (fun _ _ _ h => h) (Or.inl ⟨by rfl, ?_⟩) ?_ ?_
             rotate_left
             ·intro w'
              go_simp
              with_reducible rfl
             rotate_left
             ·simp only [Act.put, spA]
              rfl
             refine one_ (i := 6) (N := some 110) #[true, true, true, true, true, true, true, true, false, false, false, false, false, false, false, false, false, false, false, false, false, false, false, false, false, false, false, false, false, false, false, false, false, false, false, false, false] rfl rfl (by kernel_rfl) (by decide) (fun K hK => ?_)
             refine goes_ Try.func34 (by kernel_rfl) rfl #[.int .i64 (N : Int), .int .i64 z0] (by rfl) rfl rfl (by (try simp only [List.map_toArray, List.map_cons, List.map_nil]); first | done | rfl) ?_
             refine (hra _ HRA.out.1).mono ?_
             rintro e w18 ⟨rfl, nd2, rfl⟩
             refine ⟨_, rfl, ?_⟩
             refine hK.out _ _ (⟨c0_, c2_, hz1, hz2⟩) (fun hHeld2 => ?_)
             clear hK K hHeld
             have HB18 := Aside0.mk (below_step HB16.out (pw_below_drewN (below_drew1 (Below.refl _ _)) nd2))
             obtain ⟨w19, hw19⟩ : ∃ w19, w17.drew.drewN nd2 = w19 := ⟨_, rfl⟩
             rw [hw19] at HB18 hHeld2 ⊢
             clear hw19
             have HI2 := Aside0.mk (InvR.below HI.out HB18.out)
             refine norm_ (a' := ?_) ?_ ?_
             rotate_left
             ·show Act.put _ (some 110) _ = _
              simp only [Act.put, spA]
              rfl
             refine pure_ (i := 8) (N := (some 112)) (v := ?_) (a' := ?_) #[true, true, true, true, true, true, true, true, true, false, false, false, false, false, false, false, false, false, false, false, false, false, false, false, false, false, false, false, false, false, false, false, false, false, false, false, false] rfl rfl (by kernel_rfl) (fun _ _ _ h => h) (Or.inl ⟨by rfl, ?_⟩) ?_ ?_
             rotate_left
             ·intro w'
              go_simp
              with_reducible rfl
             rotate_left
             ·simp only [Act.put, spA]
              rfl
             refine pure_ (i := 9) (N := (some 113)) (v := ?_) (a' := ?_) #[true, true, true, true, true, true, true, true, true, true, false, false, false, false, false, false, false, false, false, false, false, false, false, false, false, false, false, false, false, false, false, false, false, false, false, false, false] rfl rfl (by kernel_rfl) (fun _ _ _ h => h) (Or.inl ⟨by rfl, ?_⟩) ?_ ?_
             rotate_left
             ·intro w'
              go_simp
              with_reducible rfl
             rotate_left
             ·simp only [Act.put, spA]
              rfl
             refine pure_ (i := 10) (N := (some 114)) (v := undef) (a' := ?_) #[true, true, true, true, true, true, true, true, true, true, true, false, false, false, false, false, false, false, false, false, false, false, false, false, false, false, false, false, false, false, false, false, false, false, false, false, false] rfl rfl (by kernel_rfl) (fun _ _ _ h => h) (Or.inr ⟨by rfl, rfl⟩) ?hc10 ?hd10
             case hc10 =>
              simp only [Act.put, spA]
              rfl
             refine pure_ (i := 11) (N := (some 115)) (v := undef) (a' := ?_) #[true, true, true, true, true, true, true, true, true, true, true, true, false, false, false, false, false, false, false, false, false, false, false, false, false, false, false, false, false, false, false, false, false, false, false, false, false] rfl rfl (by kernel_rfl) (fun _ _ _ h => h) (Or.inr ⟨by rfl, rfl⟩) ?hc11 ?hd11
             case hc11 =>
              simp only [Act.put, spA]
              rfl
             refine pure_ (i := 12) (N := (some 116)) (v := undef) (a' := ?_) #[true, true, true, true, true, true, true, true, true, true, true, true, true, false, false, false, false, false, false, false, false, false, false, false, false, false, false, false, false, false, false, false, false, false, false, false, false] rfl rfl (by kernel_rfl) (fun _ _ _ h => h) (Or.inr ⟨by rfl, rfl⟩) ?hc12 ?hd12
             case hc12 =>
              simp only [Act.put, spA]
              rfl
             refine pure_ (i := 13) (N := (some 117)) (v := undef) (a' := ?_) #[true, true, true, true, true, true, true, true, true, true, true, true, true, true, false, false, false, false, false, false, false, false, false, false, false, false, false, false, false, false, false, false, false, false, false, false, false] rfl rfl (by kernel_rfl) (fun _ _ _ h => h) (Or.inr ⟨by rfl, rfl⟩) ?hc13 ?hd13
             case hc13 =>
              simp only [Act.put, spA]
              rfl
             refine pure_ (i := 14) (N := (some 118)) (v := undef) (a' := ?_) #[true, true, true, true, true, true, true, true, true, true, true, true, true, true, true, false, false, false, false, false, false, false, false, false, false, false, false, false, false, false, false, false, false, false, false, false, false] rfl rfl (by kernel_rfl) (fun _ _ _ h => h) (Or.inr ⟨by rfl, rfl⟩) ?hc14 ?hd14
             case hc14 =>
              simp only [Act.put, spA]
              rfl
             refine pure_ (i := 15) (N := (some 119)) (v := undef) (a' := ?_) #[true, true, true, true, true, true, true, true, true, true, true, true, true, true, true, true, false, false, false, false, false, false, false, false, false, false, false, false, false, false, false, false, false, false, false, false, false] rfl rfl (by kernel_rfl) (fun _ _ _ h => h) (Or.inr ⟨by rfl, rfl⟩) ?hc15 ?hd15
             case hc15 =>
              simp only [Act.put, spA]
              rfl
             refine pure_ (i := 16) (N := (some 120)) (v := undef) (a' := ?_) #[true, true, true, true, true, true, true, true, true, true, true, true, true, true, true, true, true, false, false, false, false, false, false, false, false, false, false, false, false, false, false, false, false, false, false, false, false] rfl rfl (by kernel_rfl) (fun _ _ _ h => h) (Or.inr ⟨by rfl, rfl⟩) ?hc16 ?hd16
             case hc16 =>
              simp only [Act.put, spA]
              rfl
             refine pure_ (i := 17) (N := (some 121)) (v := undef) (a' := ?_) #[true, true, true, true, true, true, true, true, true, true, true, true, true, true, true, true, true, true, false, false, false, false, false, false, false, false, false, false, false, false, false, false, false, false, false, false, false] rfl rfl (by kernel_rfl) (fun _ _ _ h => h) (Or.inr ⟨by rfl, rfl⟩) ?hc17 ?hd17
             case hc17 =>
              simp only [Act.put, spA]
              rfl
             refine pure_ (i := 18) (N := (some 122)) (v := ?_) (a' := ?_) #[true, true, true, true, true, true, true, true, true, true, true, true, true, true, true, true, true, true, true, false, false, false, false, false, false, false, false, false, false, false, false, false, false, false, false, false, false] rfl rfl (by kernel_rfl) (fun _ _ _ h => h) (Or.inl ⟨by rfl, ?_⟩) ?_ ?_
             rotate_left
             ·intro w'
              go_simp
              with_reducible rfl
             rotate_left
             ·simp only [Act.put, spA]
              rfl
             refine pure_ (i := 19) (N := (some 123)) (v := ?_) (a' := ?_) #[true, true, true, true, true, true, true, true, true, true, true, true, true, true, true, true, true, true, true, true, false, false, false, false, false, false, false, false, false, false, false, false, false, false, false, false, false] rfl rfl (by kernel_rfl) (fun _ _ _ h => h) (Or.inl ⟨by rfl, ?_⟩) ?_ ?_
             rotate_left
             ·intro w'
              go_simp
              with_reducible rfl
             rotate_left
             ·simp only [Act.put, spA]
              rfl
             refine pure_ (i := 20) (N := (some 124)) (v := undef) (a' := ?_) #[true, true, true, true, true, true, true, true, true, true, true, true, true, true, true, true, true, true, true, true, true, false, false, false, false, false, false, false, false, false, false, false, false, false, false, false, false] rfl rfl (by kernel_rfl) (fun _ _ _ h => h) (Or.inr ⟨by rfl, rfl⟩) ?hc20 ?hd20
             case hc20 =>
              simp only [Act.put, spA]
              rfl
             refine pure_ (i := 21) (N := (some 125)) (v := undef) (a' := ?_) #[true, true, true, true, true, true, true, true, true, true, true, true, true, true, true, true, true, true, true, true, true, true, false, false, false, false, false, false, false, false, false, false, false, false, false, false, false] rfl rfl (by kernel_rfl) (fun _ _ _ h => h) (Or.inr ⟨by rfl, rfl⟩) ?hc21 ?hd21
             case hc21 =>
              simp only [Act.put, spA]
              rfl
             refine pure_ (i := 22) (N := (some 126)) (v := undef) (a' := ?_) #[true, true, true, true, true, true, true, true, true, true, true, true, true, true, true, true, true, true, true, true, true, true, true, false, false, false, false, false, false, false, false, false, false, false, false, false, false] rfl rfl (by kernel_rfl) (fun _ _ _ h => h) (Or.inr ⟨by rfl, rfl⟩) ?hc22 ?hd22
             case hc22 =>
              simp only [Act.put, spA]
              rfl
             refine pure_ (i := 23) (N := (some 127)) (v := undef) (a' := ?_) #[true, true, true, true, true, true, true, true, true, true, true, true, true, true, true, true, true, true, true, true, true, true, true, true, false, false, false, false, false, false, false, false, false, false, false, false, false] rfl rfl (by kernel_rfl) (fun _ _ _ h => h) (Or.inr ⟨by rfl, rfl⟩) ?hc23 ?hd23
             case hc23 =>
              simp only [Act.put, spA]
              rfl
             refine pure_ (i := 24) (N := (some 128)) (v := undef) (a' := ?_) #[true, true, true, true, true, true, true, true, true, true, true, true, true, true, true, true, true, true, true, true, true, true, true, true, true, false, false, false, false, false, false, false, false, false, false, false, false] rfl rfl (by kernel_rfl) (fun _ _ _ h => h) (Or.inr ⟨by rfl, rfl⟩) ?hc24 ?hd24
             case hc24 =>
              simp only [Act.put, spA]
              rfl
             refine pure_ (i := 25) (N := (some 129)) (v := undef) (a' := ?_) #[true, true, true, true, true, true, true, true, true, true, true, true, true, true, true, true, true, true, true, true, true, true, true, true, true, true, false, false, false, false, false, false, false, false, false, false, false] rfl rfl (by kernel_rfl) (fun _ _ _ h => h) (Or.inr ⟨by rfl, rfl⟩) ?hc25 ?hd25
             case hc25 =>
              simp only [Act.put, spA]
              rfl
             refine pure_ (i := 26) (N := (some 130)) (v := undef) (a' := ?_) #[true, true, true, true, true, true, true, true, true, true, true, true, true, true, true, true, true, true, true, true, true, true, true, true, true, true, true, false, false, false, false, false, false, false, false, false, false] rfl rfl (by kernel_rfl) (fun _ _ _ h => h) (Or.inr ⟨by rfl, rfl⟩) ?hc26 ?hd26
             case hc26 =>
              simp only [Act.put, spA]
              rfl
             refine pure_ (i := 27) (N := (some 131)) (v := undef) (a' := ?_) #[true, true, true, true, true, true, true, true, true, true, true, true, true, true, true, true, true, true, true, true, true, true, true, true, true, true, true, true, false, false, false, false, false, false, false, false, false] rfl rfl (by kernel_rfl) (fun _ _ _ h => h) (Or.inr ⟨by rfl, rfl⟩) ?hc27 ?hd27
             case hc27 =>
              simp only [Act.put, spA]
              rfl
             refine pure_ (i := 28) (N := (some 132)) (v := undef) (a' := ?_) #[true, true, true, true, true, true, true, true, true, true, true, true, true, true, true, true, true, true, true, true, true, true, true, true, true, true, true, true, true, false, false, false, false, false, false, false, false] rfl rfl (by kernel_rfl) (fun _ _ _ h => h) (Or.inr ⟨by rfl, rfl⟩) ?hc28 ?hd28
             case hc28 =>
              simp only [Act.put, spA]
              rfl
             refine pure_ (i := 29) (N := (some 133)) (v := undef) (a' := ?_) #[true, true, true, true, true, true, true, true, true, true, true, true, true, true, true, true, true, true, true, true, true, true, true, true, true, true, true, true, true, true, false, false, false, false, false, false, false] rfl rfl (by kernel_rfl) (fun _ _ _ h => h) (Or.inr ⟨by rfl, rfl⟩) ?hc29 ?hd29
             case hc29 =>
              simp only [Act.put, spA]
              rfl
             refine pure_ (i := 30) (N := (some 134)) (v := undef) (a' := ?_) #[true, true, true, true, true, true, true, true, true, true, true, true, true, true, true, true, true, true, true, true, true, true, true, true, true, true, true, true, true, true, true, false, false, false, false, false, false] rfl rfl (by kernel_rfl) (fun _ _ _ h => h) (Or.inr ⟨by rfl, rfl⟩) ?hc30 ?hd30
             case hc30 =>
              simp only [Act.put, spA]
              rfl
             refine pure_ (i := 31) (N := (some 135)) (v := undef) (a' := ?_) #[true, true, true, true, true, true, true, true, true, true, true, true, true, true, true, true, true, true, true, true, true, true, true, true, true, true, true, true, true, true, true, true, false, false, false, false, false] rfl rfl (by kernel_rfl) (fun _ _ _ h => h) (Or.inr ⟨by rfl, rfl⟩) ?hc31 ?hd31
             case hc31 =>
              simp only [Act.put, spA]
              rfl
             refine pure_ (i := 32) (N := (some 136)) (v := undef) (a' := ?_) #[true, true, true, true, true, true, true, true, true, true, true, true, true, true, true, true, true, true, true, true, true, true, true, true, true, true, true, true, true, true, true, true, true, false, false, false, false] rfl rfl (by kernel_rfl) (fun _ _ _ h => h) (Or.inr ⟨by rfl, rfl⟩) ?hc32 ?hd32
             case hc32 =>
              simp only [Act.put, spA]
              rfl
             refine pure_ (i := 33) (N := (some 137)) (v := undef) (a' := ?_) #[true, true, true, true, true, true, true, true, true, true, true, true, true, true, true, true, true, true, true, true, true, true, true, true, true, true, true, true, true, true, true, true, true, true, false, false, false] rfl rfl (by kernel_rfl) (fun _ _ _ h => h) (Or.inr ⟨by rfl, rfl⟩) ?hc33 ?hd33
             case hc33 =>
              simp only [Act.put, spA]
              rfl
             refine pure_ (i := 34) (N := (some 138)) (v := undef) (a' := ?_) #[true, true, true, true, true, true, true, true, true, true, true, true, true, true, true, true, true, true, true, true, true, true, true, true, true, true, true, true, true, true, true, true, true, true, true, false, false] rfl rfl (by kernel_rfl) (fun _ _ _ h => h) (Or.inr ⟨by rfl, rfl⟩) ?hc34 ?hd34
             case hc34 =>
              simp only [Act.put, spA]
              rfl
             refine pure_ (i := 35) (N := (some 139)) (v := undef) (a' := ?_) #[true, true, true, true, true, true, true, true, true, true, true, true, true, true, true, true, true, true, true, true, true, true, true, true, true, true, true, true, true, true, true, true, true, true, true, true, false] rfl rfl (by kernel_rfl) (fun _ _ _ h => h) (Or.inr ⟨by rfl, rfl⟩) ?hc35 ?hd35
             case hc35 =>
              simp only [Act.put, spA]
              rfl
             refine pure_ (i := 36) (N := (some 140)) (v := ?_) (a' := ?_) #[true, true, true, true, true, true, true, true, true, true, true, true, true, true, true, true, true, true, true, true, true, true, true, true, true, true, true, true, true, true, true, true, true, true, true, true, true] rfl rfl (by kernel_rfl) (fun _ _ _ h => h) (Or.inl ⟨by rfl, ?_⟩) ?_ ?_
             rotate_left
             ·intro w'
              go_simp
              with_reducible rfl
             rotate_left
             ·simp only [Act.put, spA]
              rfl
             refine done_ (by kernel_rfl) ?_
             clear hHeld2
             go_wp2_with fail
             go_roundw
             case rel =>
              go_light
              exact ⟨j + 1, by omega, rfl, rfl, rfl, by simp; omega, HB18.out, HST4.out.symm⟩
             case measure => go_light; simp [intOf]; omega
           ·have hij : ¬ ((f + 1 + j : Nat) : Int) < (l1.length : Int) := by omega
            have hlj1 : decide (((f + 1 + j : Nat) : Int) < (l1.length : Int)) = false := decide_eq_false hij
            have hje : j = E.length := by omega
            have hn := HN.out
            rw [hje, List.drop_length] at hn
            have HN0 := Aside0.mk (show nextE (ways N E fa s) at_ sum E (f + 1) = none from hn.symm)
            clear hn hje HN hDL
            go_wp2_with fail
            go_roundw
            case rel =>
             go_light
             have hg := HG.out
             rw [goOn_none _ _ _ _ _ _ _ _ HN0.out] at hg
             have hsu := HSU.out
             refine ⟨s, at_, (s : Int) - 1, sum, o, by omega, hat_, by omega, rfl, rfl, rfl, InvR.below HI.out HBR.out, ho1, by omega, by omega, by omega, hg⟩
            case measure => go_light; simp [intOf]
         ·have dz : decide (0 ≤ z) = false := decide_eq_false hz0
          have hq0 : q = 0 := by omega
          subst hq0
          have hst := HST.out
          rw [HCS2.out] at hst
          have hmm := HMM.out
          rw [HM.out, hst] at hmm
          have hs := HSS.out
          simp only [hmm] at hs
          injection hs with e1 e2
          subst e1 e2
          clear hmm hst
          go_wp2_with fail
          go_ret2
          exact ⟨_, rfl, by rw [← HG.out]; exact HI.out.o, HI.out.b⟩
       ·have dS : decide (0 ≤ xn + X) = true := decide_eq_true (by omega)
        have hcs := HCS.out
        rw [if_neg (fun hh => hS0 hh.2)] at hcs
        have hst := HST.out
        rw [hcs] at hst
        have HST2 := Aside0.mk hst
        clear hcs hst HCS HST
        go_wp2_with fail
        go_roundw
        case rel =>
         go_light
         exact ⟨f + 1, by omega, by simp, by rw [HST2.out]; rfl, HB5.out⟩
        case measure => go_light; simp [intOf]; omega
      ·have dX : decide (1099511627776 ≤ X) = true := decide_eq_true (by omega)
       have hcs := HCS.out
       rw [if_neg (fun hh => hX1 hh.1)] at hcs
       have hst := HST.out
       rw [hcs] at hst
       have HST2 := Aside0.mk hst
       clear hcs hst HCS HST
       go_wp2_with fail
       go_roundw
       case rel =>
        go_light
        exact ⟨f + 1, by omega, by simp, by rw [HST2.out]; rfl, HB5.out⟩
       case measure => go_light; simp [intOf]; omega
     ·have hlf1 : decide ((f : Int) < (l1.length : Int)) = false := decide_eq_false hlf
      have hfe : f = es.length := by have := HEL.out; omega
      have hF := HF.out
      rw [hfe, Nat.sub_self] at hF
      have hmm := HMM.out
      rw [HM.out, ← hF] at hmm
      have HMM2 := Aside0.mk hmm
      clear hF hmm hfe HF
      go_wp2_with fail
      go_roundw
      case rel =>
       go_light
       have hmm := HMM2.out
       refine ⟨m + 1, by omega, by omega, by simp, ?_, HB.out⟩
       rw [hmm, show N + 2 - (m + 1) = N + 2 - m - 1 by omega]
       rfl
      case measure => go_light; simp [intOf]; omega
   ·have hlt1 : decide ((m : Int) ≤ (N : Int) + 1) = false := decide_eq_false hlt
    have hme : m = N + 2 := by omega
    have hM := HM.out
    rw [hme, Nat.sub_self] at hM
    have hs := HSS.out
    rw [← hM] at hs
    injection hs with e1 e2
    subst e1 e2
    clear hM hme
    go_wp2_with fail
    go_ret2
    exact ⟨_, rfl, Kd.R_nil _ _ _ _ _, HB.out⟩
 ·rw [if_neg hv] at hS
  injection hS with e1 e2
  subst e1 e2
  obtain ⟨z, hz⟩ : ∃ z, validS a0 (l1.map o55) = z := ⟨_, rfl⟩
  rw [hz] at hV hv
  have hcall := r14_Valid.calls kV a0 A1 c1 l1 z w hr1 hc1 hV
  have dv : (z != 0) = true := by simp [hv]
  have dv2 : (z == 0) = false := by simp [hv]
  rw [hz]
  clear hV hz
  go_enter Try.func16, Try.ntmps16
  go_wp2_with fail
  refine hcall.mono ?_
  rintro e w2 ⟨rfl, hb⟩
  have HB2 := Aside0.mk hb
  clear hb hcall
  go_wp2_with fail
  go_ret2
  exact ⟨_, rfl, Kd.R_nil _ _ _ _ _, HB2.out⟩
end Go.Proofs.Ytcnkjcbjlopkmaa.Q
