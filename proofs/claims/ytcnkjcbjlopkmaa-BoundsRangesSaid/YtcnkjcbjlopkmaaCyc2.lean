/- The call of cycle gives the plain function. -/
import Derived.Test.YtcnkjcbjlopkmaaCyc0
import Derived.Test.YtcnkjcbjlopkmaaCyc1
import Derived.Test.YtcnkjcbjlopkmaaRep
import Derived.Test.YtcnkjcbjlopkmaaRan
import Derived.Deep.Light
import Derived.WalkMore
import Derived.Deep.RegionHeld
namespace Go.Proofs.Ytcnkjcbjlopkmaa.Q
open Go.RowKit Go.Proofs.YtcnkjcbjlopkmaaW.PrintWords Go.Proofs.YtcnkjcbjlopkmaaW.PrintLast Go.Proofs.YtcnkjcbjlopkmaaW.PrintMore
set_option linter.unusedVariables false
set_option linter.unusedSimpArgs false
attribute [local go_sem] max2_int min2_int max_two min_two
theorem repeat_ok (n : Nat) (hn : n ≤ 10) : slices_Repeat_int_int.f [1099511627776] ((n : Int) + 1) = some (List.replicate (n + 1) FREE) := by
 unfold slices_Repeat_int_int.f
 rw [if_pos ⟨rfl, by omega, by omega⟩]
 congr 1
theorem lit_C (w : World) (x : Int) : Kd.C (Kd.int .i64) (w.alloc (.cells #[.int .i64 x] 3)) (some ⟨w.heap.size, 0, none⟩) 1 [x] :=
 (Kd.R_reads' (Kd.R_of_own (enc := Value.int .i64) (h1 := fun _ => rfl) (ok := fun _ => True) (xs := [x]) (World.ownsRow_lit (base := w.heap.size) (e := 3) (size := 1) w #[.int .i64 x] 1 (Nat.le_refl _) (by simp [maxLen]) rfl) (fun _ _ => trivial))).2.2
theorem tab1 {w : World} {base g3 : Nat} {v : Value} {row : List Int} {ok ok' : Nat → Prop} (hb : base ≤ g3) (hk : w.heap[g3]? = some (.cells #[v] 22 (0, 0))) (hr : Kd.R (Kd.int .i64) 3 w base ok v row) (hok : ∀ k, ok k → ok' k ∧ k ≠ g3) (hg : ok' g3) :
  Kd.R (Kd.slice 3 (Kd.int .i64)) 22 w base ok' (.slice (some ⟨g3, 0, none⟩) 1 1) [row] := by
 refine ⟨fun k hk => ?_, [v], ⟨rfl, .inr ⟨g3, 1, #[v], rfl, hb, hk, Nat.le_refl _, by simp [maxLen], rfl, rfl⟩⟩, Reps.one (Kd.M_row (Kd.R_mono hr (fun k hk => ?_))) (Reps.none _ _)⟩
 ·have : g3 = k := by simpa [Value.ownBlock] using hk
  subst this
  exact hg
 ·obtain ⟨h1, h2⟩ := hok k hk
  refine ⟨h1, ?_⟩
  simp only [Value.ownBlock]
  intro he
  injection he with he
  exact h2 he
theorem i78 : ∃ i, Try.prog.info? 78 = some i ∧ i.size = 3 := by
 have h := info78
 cases hq : Try.prog.info? 78 with
 | none => rw [hq] at h; cases h
 | some i =>
  rw [hq] at h
  simp only [Option.map_some, Option.some.injEq, Prod.mk.injEq] at h
  exact ⟨i, rfl, h.2.1⟩
theorem add_flat (g k : Nat) : Addr.add ⟨g, 0, none⟩ k = ⟨g, k, none⟩ := by
 unfold Addr.add
 by_cases h : k = 0 <;> simp [h]
theorem ways_last (n : Nat) (es : List S78) (t : Int) (m : Nat) (h : 1 ≤ m) : stepRow (ways n es t (m - 1)) (es.take es.length) (List.replicate (n + 1) FREE) = ways n es t m := by
 rw [List.take_length]
 obtain ⟨k, rfl⟩ : ∃ k, m = k + 1 := ⟨m - 1, by omega⟩
 rfl
theorem two_new (w : World) (o1 o2 : Obj) : ((w.alloc o1).alloc o2).drew.heap[w.heap.size + 1]? = some o2 := by
 have e : w.heap.size + 1 = (w.alloc o1).heap.size := by simp
 rw [e]
 exact blk_new _ _
theorem tab_cells {w : World} {base n g m cap : Nat} {es : List S78} {fa : Int} {ok : Nat → Prop} (ht : Kd.R (Kd.slice 3 (Kd.int .i64)) 22 w base ok (.slice (some ⟨g, 0, none⟩) m cap) (tab n es fa m)) (s v : Nat) (hs : s < m) (hv : v < n + 1) :
  ∃ ad2 c2, w.cell? (Addr.add ⟨g, 0, none⟩ s) = some (.slice (some ad2) (n + 1) c2) ∧ w.cell? (ad2.add v) = some (.int .i64 (rd (ways n es fa s) (v : Int))) := by
 obtain ⟨-, hgc, hCt⟩ := Kd.R_reads' ht
 rw [tab_len] at hCt
 obtain ⟨adt, A0_, c0_, e1, t1, tl, tc⟩ := at_L4 hCt (s : Int) (by omega) (by omega)
 injection e1 with e1
 subst e1
 rw [tab_get n es fa m s hs, ways_len] at t1 tc tl
 obtain ⟨ad0, e2, t2⟩ := Kd.at_int tc (v : Int) (by omega) (by omega)
 subst e2
 exact ⟨ad0, c0_, t1, t2⟩
theorem goesB_eq (X sum k : Int) (h1 : -4398046511104 ≤ X) (h2 : X ≤ FREE) (h3 : -4398046511104 ≤ sum) (h4 : sum ≤ 4398046511104) (h5 : -4398046511104 ≤ k) (h6 : k ≤ 4398046511104) : goesB X sum k = decide (X < FREE ∧ sum + k + X < 0) := by
 unfold FREE at *
 unfold goesB
 rw [wrap_of (sum + k) (by omega) (by omega), wrap_of (sum + k + X) (by omega) (by omega)]
 by_cases ha : X < 1099511627776 <;> by_cases hb : sum + k + X < 0 <;> simp [ha, hb]
theorem nextE_drop (W : List Int) (at_ sum : Int) (es : List S78) (i j : Nat) (h : j < es.length) : nextE W at_ sum (es.drop j) (i + j) = if (rd_T78 es j).f0 = at_ ∧ rd W (rd_T78 es j).f1 < FREE ∧ sum + (rd_T78 es j).f2 + rd W (rd_T78 es j).f1 < 0 then some (i + j, rd_T78 es j) else nextE W at_ sum (es.drop (j + 1)) (i + (j + 1)) := by
 rw [List.drop_eq_getElem_cons h]
 have e : rd_T78 es j = es[j] := by simp [rd_T78, List.getD_eq_getElem?_getD, h]
 rw [e]
 rfl
theorem rd_drop (l : List S78) (k j : Nat) : rd_T78 (l.drop k) (j : Int) = rd_T78 l ((k + j : Nat) : Int) := by
 have e : ((k + j : Nat) : Int).toNat = k + j := by omega
 unfold rd_T78
 rw [e, Int.toNat_natCast]
 simp [List.getD_eq_getElem?_getD, List.getElem?_drop]
theorem goOn_none (n : Nat) (es : List S78) (t : Int) (f s : Nat) (a sum : Int) (o : List Int) (h : nextE (ways n es t s) a sum es f = none) : goOn n es t f (s + 1) a sum o = goOn n es t f s a sum o := by
 simp only [goOn]
 rw [h]
theorem goOn_some (n : Nat) (es : List S78) (t : Int) (f s : Nat) (a sum : Int) (o : List Int) (i : Nat) (x : S78) (h : nextE (ways n es t s) a sum es f = some (i, x)) : goOn n es t f (s + 1) a sum o = goOn n es t f s x.f1 (sum + x.f2) (o ++ [(i : Int)]) := by
 simp only [goOn]
 rw [h]
structure Inv (w : World) (base b9 bs g m cap n : Nat) (es : List S78) (fa : Int) (v : Value) (o : List Int) (sum : Int) (W : World) : Prop where
 ke : W.heap[b9]? = some (.cells #[.slice (some ⟨g, 0, none⟩) m cap] 29 (0, 0))
 ks : W.heap[bs]? = some (.cells #[.int .i64 sum] 3 (0, 0))
 t : Kd.R (Kd.slice 3 (Kd.int .i64)) 22 W base (fun k => k ≠ b9 ∧ k ≠ bs ∧ some k ≠ v.ownBlock) (.slice (some ⟨g, 0, none⟩) m cap) (tab n es fa m)
 o : Kd.R (Kd.int .i64) 3 W base (fun k => k ≠ b9 ∧ k ≠ bs) v o
 b : Below base w W
 lt9 : b9 < W.heap.size
 lts : bs < W.heap.size
 les : base ≤ bs
 ne : b9 ≠ bs
theorem Inv.below {w : World} {base b9 bs g m cap n : Nat} {es : List S78} {fa : Int} {v : Value} {o : List Int} {sum : Int} {W W' : World} (h : Inv w base b9 bs g m cap n es fa v o sum W) (hz : base = w.heap.size) (hb : Below W.heap.size W W') : Inv w base b9 bs g m cap n es fa v o sum W' := by
 subst hz
 exact ⟨blk_below h.ke hb, blk_below h.ks hb, Kd.R_below h.t hb, Kd.R_below h.o hb, below_step h.b hb, by have := hb.size; have := h.lt9; omega, by have := hb.size; have := h.lts; omega, h.les, h.ne⟩
theorem Inv.found {w : World} {base b9 bs g m cap n : Nat} {es : List S78} {fa : Int} {v v1 : Value} {o o1 : List Int} {sum sum1 : Int} {W W1 : World} (h : Inv w base b9 bs g m cap n es fa v o sum W) (hz : base = w.heap.size) (ho : Kd.R (Kd.int .i64) 3 W1 base (fun k => k ≠ b9 ∧ k ≠ bs) v1 o1)
  (hb : Below base w W1) (hg : W.grownBy W1 v.ownBlock) (hat : v1.ownBlock = v.ownBlock ∨ ∃ b, v1.ownBlock = some b ∧ W.heap.size ≤ b) : Inv w base b9 bs g m cap n es fa v1 o1 sum1 (W1.setCell ⟨bs, 0, none⟩ (.int .i64 sum1)) := by
 subst hz
 have h9 : some b9 ≠ v.ownBlock := fun he => (h.o.1 b9 he.symm).1 rfl
 have hs : some bs ≠ v.ownBlock := fun he => (h.o.1 bs he.symm).2 rfl
 have k9 := blk_grown h.ke hg h9
 have ks := blk_grown h.ks hg hs
 have ht := Kd.R_after (ok := fun k => k ≠ b9 ∧ k ≠ bs) (Kd.R_mono h.t (fun k hk => ⟨⟨hk.1, hk.2.1⟩, hk.2.2⟩)) hg hat
 have l9 := blk_lt k9
 have ls := blk_lt ks
 refine ⟨blk_far k9 h.ne _, blk_put ks 0 _ rfl, Kd.R_far (Kd.R_mono ht (fun k hk => ⟨hk.1.1, hk.1.2, hk.2⟩)) (fun k hk => hk.2.1) _, Kd.R_far ho (fun k hk => hk.2) _, below_set hb h.les, ?_, ?_, h.les, h.ne⟩
 ·exact blk_lt (blk_far k9 (p := ⟨bs, 0, none⟩) h.ne (.int .i64 sum1))
 ·exact blk_lt (blk_put ks 0 (.int .i64 sum1) rfl)
set_option maxHeartbeats 8000000 in
set_option maxRecDepth 100000 in
theorem cycle_calls (n : Nat) (A1 : Option Addr) (c1 : Nat) (l1 : List S78) (first many : Nat) (w : World) (hr1 : Kd.C k78 w A1 l1.length l1) (hc1 : l1.length ≤ c1) (hn : n ≤ 10) (hm2 : 2 ≤ many) (hmn : many ≤ n + 1) (hf : first < l1.length) (hl : l1.length ≤ 64) (hok : OkE n l1) :
  Calls Try.prog 32 #[.int .i64 (n : Int), .slice A1 l1.length c1, .int .i64 (first : Int), .int .i64 (many : Int)] w fun e w' => ∃ v : Value, e = .returned v ∧ Below w.heap.size w w' ∧
   ((cycleS n l1 first many = none ∧ v = .slice none 0 0) ∨ (∃ r : List Int, cycleS n l1 first many = some r ∧ 1 ≤ r.length ∧ Kd.R (Kd.int .i64) 3 w' w.heap.size (fun _ => True) v r)) := by
 have HB := Aside0.mk (Below.refl w.heap.size w)
 have HR1 := Aside0.mk hr1
 clear hr1
 have hwn : wrap64 ((n : Int) + 1) = (n : Int) + 1 := by rw [← i64_w, IntKind.wrap_i64]; omega
 have HWN := Aside0.mk hwn
 clear hwn
 go_enter Try.func32, Try.ntmps32
 have hwn := HWN.out
 go_wp2_with fail
 go_step3
 go_wp2_with fail
 refine (slices_Repeat_int_int.calls (some ⟨w.heap.size, 0, none⟩) 1 [1099511627776] ((n : Int) + 1) (List.replicate (n + 1) FREE) _ (lit_C w _) (Nat.le_refl _) (repeat_ok n hn)).mono ?_
 rintro e w2 ⟨v2, rfl, ho, hb⟩
 obtain ⟨g2, cap2, rfl, hg2, hg2', -⟩ := Kd.R_form ho (by simp)
 have HB2 := Aside0.mk (below_step (below_alloc HB.out _) hb)
 have hz2 := hb.size
 have ho' := Kd.R_lower ho (base' := w.heap.size) (by simp)
 have eln : (List.replicate (n + 1) FREE).length = n + 1 := by simp
 rw [eln] at ho'
 have HO2 := Aside0.mk ho'
 clear ho ho' hb HB hg2 hwn
 go_wp2_with fail
 have hz3 : w.heap.size ≤ w2.heap.size := by simp at hz2; omega
 clear hz2
 obtain ⟨w3, hw3⟩ : ∃ w3, ((w2.alloc (Obj.cells #[Value.slice (some { block := g2, off := 0 }) (n + 1) cap2] 22)).alloc (Obj.cells #[Value.slice (some { block := w2.heap.size, off := 0 }) 1 1] 29)) = w3 := ⟨_, rfl⟩
 rw [hw3]
 have HB3 : Aside0 (Below w.heap.size w w3) := ⟨by rw [← hw3]; exact below_alloc (below_alloc HB2.out _) _⟩
 have HO3 : Aside0 (Kd.R (Kd.int .i64) 3 w3 w.heap.size (fun k => k ≠ w2.heap.size ∧ k ≠ w2.heap.size + 1) (.slice (some ⟨g2, 0, none⟩) (n + 1) cap2) (List.replicate (n + 1) FREE)) := ⟨by
  rw [← hw3]
  refine Kd.R_alloc (Kd.R_alloc (own3 HO2.out (fun k hk => ?_)) _) _
  have : k = g2 := by simpa [Value.ownBlock] using hk.symm
  omega⟩
 have hk3 : w3.heap[w2.heap.size]? = some (.cells #[.slice (some ⟨g2, 0, none⟩) (n + 1) cap2] 22 (0, 0)) := by rw [← hw3]; exact blk_alloc (blk_new w2 _) _
 have hk4 : w3.heap[w2.heap.size + 1]? = some (.cells #[.slice (some ⟨w2.heap.size, 0, none⟩) 1 1] 29 (0, 0)) := by
  rw [← hw3]
  have e_ : w2.heap.size + 1 = (w2.alloc (Obj.cells #[Value.slice (some { block := g2, off := 0 }) (n + 1) cap2] 22)).heap.size := by simp
  rw [e_]
  exact blk_new _ _
 generalize w2.heap.size = g3 at hg2' hw3 HO3 hk3 hk4 hz3 ⊢
 clear hw3 HO2 HB2
 have HK3 := Aside0.mk hk3
 have HK4 := Aside0.mk hk4
 have p0 : (first : Int) < (l1.length : Int) := by omega
 obtain ⟨ad, eA, hx0, hx1, hx2⟩ := at_T78 (Kd.C_below HR1.out HB3.out) (first : Int) (by omega) p0
 subst eA
 simp only [Int.toNat_natCast] at hx0 hx1 hx2
 have hoF := hok (rd_T78 l1 first) (by simp [rd_T78, List.getD_eq_getElem?_getD, hf])
 obtain ⟨o1, o2, o3, o4, o5, o6⟩ := hoF
 obtain ⟨fa, hfa⟩ := Int.eq_ofNat_of_zero_le o1
 obtain ⟨fb, hfb⟩ := Int.eq_ofNat_of_zero_le o3
 obtain ⟨fn, hfn⟩ : ∃ fn, (rd_T78 l1 first).f2 = fn := ⟨_, rfl⟩
 rw [hfa] at hx0 o1 o2
 rw [hfb] at hx1 o3 o4
 rw [hfn] at hx2 o5 o6
 have p1 : (fa : Int) < (n : Int) + 1 := by omega
 have p2 : (fb : Int) < (n : Int) + 1 := by omega
 obtain ⟨hcell, hfro⟩ := Kd.R_celln (0 : Int) (enc := Value.int .i64) (h1 := fun _ => rfl) (Kd.R_drew HO3.out) (fa : Int) (by omega) (by omega)
 simp only [Int.toNat_natCast] at hcell hfro
 have c1_ : w3.drew.cell? ⟨g3 + 1, 0, none⟩ = some (.slice (some ⟨g3, 0, none⟩) 1 1) := (blk_cell (blk_drew hk4) 0).trans rfl
 have c2_ : w3.drew.cell? ⟨g3, 0, none⟩ = some (.slice (some ⟨g2, 0, none⟩) (n + 1) cap2) := (blk_cell (blk_drew hk3) 0).trans rfl
 have c3_ : w3.drew.cell? (ad.add (first * 3)) = some (.int .i64 (fa : Int)) := hx0
 have HX := Aside0.mk (And.intro hx0 (And.intro hx1 hx2))
 have OO := Aside0.mk (And.intro o5 o6)
 have HFA := Aside0.mk hfa
 have HFB := Aside0.mk hfb
 have HFN := Aside0.mk hfn
 clear hx0 hx1 hx2 o1 o2 o3 o4 o5 o6 hk3 hk4 hfa hfb hfn
 refine start_ (n := 10) (S := fun w' : World => w'.cell? ⟨g3 + 1, 0, none⟩ = some (.slice (some ⟨g3, 0, none⟩) 1 1) ∧ w'.cell? ⟨g3, 0, none⟩ = some (.slice (some ⟨g2, 0, none⟩) (n + 1) cap2) ∧ w'.cell? (ad.add (first * 3)) = some (.int .i64 (fa : Int))) (ds := [9]) #[false, false, false, false, false, false, false, false, false, false] (by kernel_rfl) rfl rfl (⟨c1_, c2_, c3_⟩) (fun hHeld => ?_)
 refine take_ (i := 0) (N := (some 27)) (v := ?_) (a' := ?_) #[true, false, false, false, false, false, false, false, false, false] rfl rfl (by kernel_rfl) (fun _ _ _ h => h) (Or.inl ⟨by rfl, ?_⟩) hHeld ?_ ?_
 rotate_left
 ·rintro w' ⟨s0, s1, s2⟩
  go_simp
  with_reducible rfl
 rotate_left
 ·simp only [Act.put, spA]
  rfl
 refine pure_ (i := 1) (N := (some 28)) (v := ?_) (a' := ?_) #[true, true, false, false, false, false, false, false, false, false] rfl rfl (by kernel_rfl) (fun _ _ _ h => h) (Or.inl ⟨by rfl, ?_⟩) ?_ ?_
 rotate_left
 ·intro w'
  go_simp
  with_reducible rfl
 rotate_left
 ·simp only [Act.put, spA]
  rfl
 refine take_ (i := 2) (N := (some 29)) (v := ?_) (a' := ?_) #[true, true, true, false, false, false, false, false, false, false] rfl rfl (by kernel_rfl) (fun _ _ _ h => h) (Or.inl ⟨by rfl, ?_⟩) hHeld ?_ ?_
 rotate_left
 ·rintro w' ⟨s0, s1, s2⟩
  go_simp
  with_reducible rfl
 rotate_left
 ·simp only [Act.put, spA]
  rfl
 refine pure_ (i := 3) (N := (some 30)) (v := ?_) (a' := ?_) #[true, true, true, true, false, false, false, false, false, false] rfl rfl (by kernel_rfl) (fun _ _ _ h => h) (Or.inl ⟨by rfl, ?_⟩) ?_ ?_
 rotate_left
 ·intro w'
  go_simp
  with_reducible rfl
 rotate_left
 ·simp only [Act.put, spA]
  rfl
 refine pure_ (i := 4) (N := (some 31)) (v := ?_) (a' := ?_) #[true, true, true, true, true, false, false, false, false, false] rfl rfl (by kernel_rfl) (fun _ _ _ h => h) (Or.inl ⟨by rfl, ?_⟩) ?_ ?_
 rotate_left
 ·intro w'
  go_simp
  with_reducible rfl
 rotate_left
 ·simp only [Act.put, spA]
  rfl
 refine pure_ (i := 5) (N := (some 32)) (v := ?_) (a' := ?_) #[true, true, true, true, true, true, false, false, false, false] rfl rfl (by kernel_rfl) (fun _ _ _ h => h) (Or.inl ⟨by rfl, ?_⟩) ?_ ?_
 rotate_left
 ·intro w'
  go_simp
  with_reducible rfl
 rotate_left
 ·simp only [Act.put, spA]
  rfl
 refine pure_ (i := 6) (N := (some 33)) (v := ?_) (a' := ?_) #[true, true, true, true, true, true, true, false, false, false] rfl rfl (by kernel_rfl) (fun _ _ _ h => h) (Or.inl ⟨by rfl, ?_⟩) ?_ ?_
 rotate_left
 ·intro w'
  go_simp
  with_reducible rfl
 rotate_left
 ·simp only [Act.put, spA]
  rfl
 refine take_ (i := 7) (N := (some 34)) (v := ?_) (a' := ?_) #[true, true, true, true, true, true, true, true, false, false] rfl rfl (by kernel_rfl) (fun _ _ _ h => h) (Or.inl ⟨by rfl, ?_⟩) hHeld ?_ ?_
 rotate_left
 ·rintro w' ⟨s0, s1, s2⟩
  go_simp
  with_reducible rfl
 rotate_left
 ·simp only [Act.put, spA]
  rfl
 refine pure_ (i := 8) (N := (some 35)) (v := ?_) (a' := ?_) #[true, true, true, true, true, true, true, true, true, false] rfl rfl (by kernel_rfl) (fun _ _ _ h => h) (Or.inl ⟨by rfl, ?_⟩) ?_ ?_
 rotate_left
 ·intro w'
  go_simp
  with_reducible rfl
 rotate_left
 ·simp only [Act.put, spA]
  rfl
 refine last_ (i := 9) (N := none) #[true, true, true, true, true, true, true, true, true, true] rfl rfl (by kernel_rfl) (by decide) (fun K hK => ?_)
 refine skip_ (w1 := ?_) (by rfl) rfl ?_ ?_
 rotate_left
 ·go_simp
  rfl
 refine hK.out _ _ ?_
 clear hK K
 refine done_ (by kernel_rfl) ?_
 clear c1_ c2_ c3_ hHeld hcell hfro
 have fEs : ∃ es, es = l1.drop (first + 1) := ⟨_, rfl⟩
 obtain ⟨es, hes⟩ := fEs
 have HES := Aside0.mk hes
 have hoE : OkE n es := by rw [hes]; exact hok.drop _
 obtain ⟨i_, hi1_, hi2_⟩ := i78
 have hcut0 := cut_from (P := Try.prog) 59 78 .i64 Try.underlying59 hi1_ 3 hi2_ (some ad) l1.length c1 ((first : Int) + 1) (by omega) (by omega)
 have hdrop := Kd.C_drop (k := k78) (c := c1) (m := first + 1) HR1.out (by omega) hc1
 rw [← hes] at hdrop
 have eL : l1.length - ((first : Int) + 1).toNat = es.length := by rw [hes, List.length_drop]; omega
 have eT : ((first : Int) + 1).toNat = first + 1 := by omega
 have eZ : k78.sz = 3 := rfl
 rw [eL, eT] at hcut0
 rw [eZ] at hdrop
 obtain ⟨Ae, hAe⟩ : ∃ Ae, (if c1 = first + 1 then some ad else Option.map (fun x => x.add ((first + 1) * 3)) (some ad)) = Ae := ⟨_, rfl⟩
 rw [hAe] at hcut0 hdrop
 have HDR := Aside0.mk hdrop
 have HCUT := Aside0.mk hcut0
 have hesl : es.length ≤ 64 := by rw [hes, List.length_drop]; omega
 clear hes hcut0 hdrop hAe eT eZ hi1_ hi2_ i_
 have HEL := Aside0.mk eL
 clear eL
 have HT1 : Aside0 (Kd.R (Kd.slice 3 (Kd.int .i64)) 22 (w3.setCell { block := g2, off := fa } (Value.int IntKind.i64 0)).drew w.heap.size (fun k => k ≠ g3 + 1) (.slice (some ⟨g3, 0, none⟩) 1 1) (tab n es fa 1)) := ⟨by
  have h1 := Kd.R_drew (Kd.R_putn (enc := Value.int .i64) (h1 := fun _ => rfl) HO3.out (fa : Int) (0 : Int))
  exact tab1 (by omega) (blk_drew (blk_far HK3.out (by show g3 ≠ g2; omega) _)) h1 (fun k hk => ⟨hk.2, hk.1⟩) (by omega)⟩
 have HKE : Aside0 ((w3.setCell { block := g2, off := fa } (Value.int IntKind.i64 0)).drew.heap[g3 + 1]? = some (.cells #[.slice (some ⟨g3, 0, none⟩) 1 1] 29 (0, 0))) := ⟨blk_drew (blk_far HK4.out (by show g3 + 1 ≠ g2; omega) _)⟩
 have HB4 : Aside0 (Below w.heap.size w (w3.setCell { block := g2, off := fa } (Value.int IntKind.i64 0)).drew) := ⟨below_drew1 (below_set HB3.out (Kd.R_base HO3.out g2 (by simp [Value.ownBlock])))⟩
 clear HO3 HK3 HK4
 have q1 : (1 : Nat) ≤ many := by omega
 go_wp2_with fail
 go_loopw [10] (fun v10 wr => ∃ m g cap : Nat, 1 ≤ m ∧ m ≤ many ∧ v10 = .int .i64 (m : Int) ∧ wr.heap[g3 + 1]? = some (.cells #[.slice (some ⟨g, 0, none⟩) m cap] 29 (0, 0)) ∧
   Kd.R (Kd.slice 3 (Kd.int .i64)) 22 wr w.heap.size (fun k => k ≠ g3 + 1) (.slice (some ⟨g, 0, none⟩) m cap) (tab n es fa m) ∧ Below w.heap.size w wr)
  (fun v10 _ => many - (intOf v10).toNat)
 case atStart => exact ⟨1, g3, 1, by omega, by omega, rfl, HKE.out, HT1.out, HB4.out⟩
 case round =>
  clear HT1 HKE HB4 HB3
  obtain ⟨m, g, cap, hm1, hm, rfl, hke, ht, hb⟩ := hrel
  obtain ⟨wo, hwo⟩ : ∃ wo, wo = wr := ⟨_, rfl⟩
  subst hwo
  have HT := Aside0.mk ht
  have HKE := Aside0.mk hke
  have HB := Aside0.mk hb
  clear ht hke hb
  by_cases hlt : (m : Int) < (many : Int)
  ·have hlt1 : decide ((m : Int) < (many : Int)) = true := decide_eq_true hlt
   go_wp2_with fail
   have hwn := HWN.out
   go_wp2_with fail
   refine (slices_Repeat_int_int.calls (some ⟨wo.heap.size, 0, none⟩) 1 [1099511627776] ((n : Int) + 1) (List.replicate (n + 1) FREE) _ (lit_C wo _) (Nat.le_refl _) (repeat_ok n hn)).mono ?_
   rintro e w5 ⟨v5, rfl, ho, hb⟩
   obtain ⟨g5, cap5, rfl, hg5, hg5', -⟩ := Kd.R_form ho (by simp)
   rw [eln] at ho
   clear hwn
   have hcut0 := HCUT.out
   go_wp2_with fail
   clear hcut0
   have hb6 := below_step HB.out (below_step (below_alloc (Below.refl _ _) _) hb)
   have hbw := below_step (below_alloc (Below.refl wo.heap.size wo) _) hb
   have ew : (wo.alloc (Obj.cells #[Value.int IntKind.i64 1099511627776] 3)).heap.size = wo.heap.size + 1 := by simp
   rw [ew] at hg5
   have hke5 : w5.heap[g3 + 1]? = some (.cells #[.slice (some ⟨g, 0, none⟩) m cap] 29 (0, 0)) := blk_below HKE.out hbw
   have ht5 : Kd.R (Kd.slice 3 (Kd.int .i64)) 22 w5 w.heap.size (fun k => k ≠ g3 + 1 ∧ k ≠ g5) (.slice (some ⟨g, 0, none⟩) m cap) (tab n es fa m) :=
    Kd.R_mono (Kd.R_below (Kd.R_bound HT.out) hbw) (fun k hk => ⟨hk.1, by have := hk.2.2.1; omega⟩)
   have hsz : w.heap.size ≤ wo.heap.size := HB.out.size
   have hr5 : Kd.R (Kd.int .i64) 3 w5 w.heap.size (fun k => k = g5) (.slice (some ⟨g5, 0, none⟩) (n + 1) cap5) (List.replicate (n + 1) FREE) :=
    own3 (Kd.R_lower ho (by rw [ew]; omega)) (fun k hk => by simpa [Value.ownBlock] using hk.symm)
   have hne5 : g3 + 1 < wo.heap.size := blk_lt HKE.out
   clear ho hb hbw HT HKE
   have HT := Aside0.mk ht5
   have HKE := Aside0.mk hke5
   have HRW := Aside0.mk hr5
   have HB0 := HB
   clear HB
   have HB := Aside0.mk hb6
   clear ht5 hke5 hr5 hb6 HB0 ew
   go_loopw [50] (fun v50 wi => ∃ j : Nat, j ≤ es.length ∧ v50 = .int .i64 (j : Int) ∧ wi.heap[g3 + 1]? = some (.cells #[.slice (some ⟨g, 0, none⟩) m cap] 29 (0, 0)) ∧
     Kd.R (Kd.slice 3 (Kd.int .i64)) 22 wi w.heap.size (fun k => k ≠ g3 + 1 ∧ k ≠ g5) (.slice (some ⟨g, 0, none⟩) m cap) (tab n es fa m) ∧
     Kd.R (Kd.int .i64) 3 wi w.heap.size (fun k => k = g5) (.slice (some ⟨g5, 0, none⟩) (n + 1) cap5) (stepRow (ways n es fa (m - 1)) (es.take j) (List.replicate (n + 1) FREE)) ∧ Below w.heap.size w wi)
    (fun v50 _ => es.length - (intOf v50).toNat)
   case atStart => exact ⟨0, by omega, rfl, HKE.out, HT.out, HRW.out, HB.out⟩
   case round =>
    clear HT HKE HRW HB
    obtain ⟨j, hj, rfl, hke, ht, hrw, hb⟩ := hrel
    have HT := Aside0.mk ht
    have HKE := Aside0.mk hke
    have HRW := Aside0.mk hrw
    have HB := Aside0.mk hb
    clear hke ht hrw hb
    by_cases hlj : (j : Int) < (es.length : Int)
    ·have hlj1 : decide ((j : Int) < (es.length : Int)) = true := decide_eq_true hlj
     obtain ⟨ade, eA, hx0, hx1, hx2⟩ := at_T78 (Kd.C_below HDR.out HB.out) (j : Int) (by omega) hlj
     subst eA
     simp only [Int.toNat_natCast] at hx0 hx1 hx2
     have hjl : j < es.length := by omega
     have hoF := hoE (rd_T78 es j) (by simp [rd_T78, List.getD_eq_getElem?_getD, hjl])
     have hst := stepRow_take (ways n es fa (m - 1)) es (List.replicate (n + 1) FREE) j hjl
     obtain ⟨xx, hxx⟩ : ∃ xx, rd_T78 es j = xx := ⟨_, rfl⟩
     rw [hxx] at hx0 hx1 hx2 hoF hst
     obtain ⟨xa, xb, xn⟩ := xx
     obtain ⟨o1, o2, o3, o4, o5, o6⟩ := hoF
     simp only at hx0 hx1 hx2 o1 o2 o3 o4 o5 o6
     obtain ⟨ya, rfl⟩ := Int.eq_ofNat_of_zero_le o1
     obtain ⟨yb, rfl⟩ := Int.eq_ofNat_of_zero_le o3
     have p3 : (ya : Int) < (n : Int) + 1 := by omega
     have p4 : (yb : Int) < (n : Int) + 1 := by omega
     have OX := Aside0.mk (And.intro o5 o6)
     have HST := Aside0.mk hst
     clear o1 o2 o3 o4 o5 o6 hst hxx
     go_wp2_with fail
     have hk6 : (wr.alloc (Obj.cells #[Value.int IntKind.i64 ↑ya, Value.int IntKind.i64 ↑yb, Value.int IntKind.i64 xn] 78)).heap[wr.heap.size]? = some (.cells #[Value.int IntKind.i64 ↑ya, Value.int IntKind.i64 ↑yb, Value.int IntKind.i64 xn] 78 (0, 0)) := blk_new _ _
     have hb6 := below_alloc (Below.refl wr.heap.size wr) (Obj.cells #[Value.int IntKind.i64 ↑ya, Value.int IntKind.i64 ↑yb, Value.int IntKind.i64 xn] 78)
     generalize wr.alloc (Obj.cells #[Value.int IntKind.i64 ↑ya, Value.int IntKind.i64 ↑yb, Value.int IntKind.i64 xn] 78) = w6 at hk6 hb6 ⊢
     have hke6 := blk_below HKE.out hb6
     have ht6 := Kd.R_below HT.out hb6
     have hrw6 := Kd.R_below HRW.out hb6
     have hbb6 := below_step HB.out hb6
     have hg5' := Kd.R_lt HRW.out g5 (by simp [Value.ownBlock])
     have hz6 : w.heap.size ≤ wr.heap.size := HB.out.size
     have hz7 : g3 + 1 < wr.heap.size := blk_lt HKE.out
     clear HT HKE HRW HB hb6
     have HT := Aside0.mk ht6
     have HKE := Aside0.mk hke6
     have HRW := Aside0.mk hrw6
     have HB := Aside0.mk hbb6
     have HK6 := Aside0.mk hk6
     obtain ⟨-, hgc, hCt⟩ := Kd.R_reads' ht6
     rw [tab_len] at hCt
     have p5 : 0 ≤ (m : Int) - 1 := by omega
     have p6 : (m : Int) - 1 < (m : Int) := by omega
     obtain ⟨adt, A0_, c0_, e1, t1, tl, tc⟩ := at_L4 hCt ((m : Int) - 1) p5 p6
     injection e1 with e1
     subst e1
     have et : rd_L4 (tab n es fa m) ((m : Int) - 1) = ways n es fa (m - 1) := by
      rw [show (m : Int) - 1 = ((m - 1 : Nat) : Int) by omega]
      exact tab_get n es fa m (m - 1) (by omega)
     rw [et, ways_len] at t1 tc tl
     obtain ⟨ad0, e2, t2⟩ := Kd.at_int tc (yb : Int) (by omega) (by omega)
     subst e2
     have tn : ((m : Int) - 1).toNat = m - 1 := by omega
     rw [tn] at t1
     simp only [Int.toNat_natCast] at t2
     have hXb := ways_bd hoE fa (m - 1) (yb : Int)
     obtain ⟨X, hX⟩ : ∃ X, rd (ways n es fa (m - 1)) (yb : Int) = X := ⟨_, rfl⟩
     rw [hX] at t2 hXb
     obtain ⟨hcell, hfro⟩ := Kd.R_celln (0 : Int) (enc := Value.int .i64) (h1 := fun _ => rfl) (Kd.R_drew HRW.out) (ya : Int) (by omega) (by omega)
     simp only [Int.toNat_natCast] at hcell hfro
     have eY : rdOf (0 : Int) (stepRow (ways n es fa (m - 1)) (es.take j) (List.replicate (n + 1) FREE)) (ya : Int) = rd (stepRow (ways n es fa (m - 1)) (es.take j) (List.replicate (n + 1) FREE)) (ya : Int) := rfl
     rw [eY] at hcell
     obtain ⟨Y, hY⟩ : ∃ Y, rd (stepRow (ways n es fa (m - 1)) (es.take j) (List.replicate (n + 1) FREE)) (ya : Int) = Y := ⟨_, rfl⟩
     rw [hY] at hcell
     have d0 : w6.drew.cell? ⟨g3 + 1, 0, none⟩ = some (.slice (some ⟨g, 0, none⟩) m cap) := (blk_cell (blk_drew hke6) 0).trans rfl
     have p7 : (1 : Int) ≤ (m : Int) := by omega
     have ea : Addr.add ⟨g, 0, none⟩ (m - 1) = ⟨g, m - 1, none⟩ := add_flat g (m - 1)
     rw [ea] at t1
     have d1 : w6.drew.cell? ⟨g, m - 1, none⟩ = some (.slice (some ad0) (n + 1) c0_) := t1
     have d2 : w6.drew.cell? (ad0.add yb) = some (.int .i64 X) := t2
     have d3 : w6.drew.cell? ⟨wr.heap.size, 0, none⟩ = some (.int .i64 (ya : Int)) := (blk_cell (blk_drew hk6) 0).trans rfl
     have d4 : w6.drew.cell? ⟨wr.heap.size, 1, none⟩ = some (.int .i64 (yb : Int)) := (blk_cell (blk_drew hk6) 1).trans rfl
     have d5 : w6.drew.cell? ⟨wr.heap.size, 2, none⟩ = some (.int .i64 xn) := (blk_cell (blk_drew hk6) 2).trans rfl
     have hwm : wrap64 ((m : Int) - 1) = (m : Int) - 1 := wrap_of _ (by omega) (by omega)
     have HXB := Aside0.mk hXb
     have HXE := Aside0.mk hX
     have HYE := Aside0.mk hY
     clear hke6 ht6 hrw6 hbb6 hk6 t1 t2 tc tl hCt et hXb hX hY eY
     generalize hbx : wr.heap.size = bx at *
     clear hbx hx0 hx1 hx2
     refine start_ (n := 10) (S := fun w' : World => w'.cell? ⟨g3 + 1, 0, none⟩ = some (.slice (some ⟨g, 0, none⟩) m cap) ∧ w'.cell? ⟨g, m - 1, none⟩ = some (.slice (some ad0) (n + 1) c0_) ∧ w'.cell? (ad0.add yb) = some (.int .i64 X) ∧ w'.cell? ⟨bx, 1, none⟩ = some (.int .i64 (yb : Int))) (ds := []) #[false, false, false, false, false, false, false, false, false, false] (by kernel_rfl) rfl rfl (⟨d0, d1, d2, d4⟩) (fun hHeld => ?_)
     refine take_ (i := 0) (N := (some 54)) (v := ?_) (a' := ?_) #[true, false, false, false, false, false, false, false, false, false] rfl rfl (by kernel_rfl) (fun _ _ _ h => h) (Or.inl ⟨by rfl, ?_⟩) hHeld ?_ ?_
     rotate_left
     ·rintro w' ⟨s0, s1, s2, s3⟩
      go_simp
      with_reducible rfl
     rotate_left
     ·simp only [Act.put, spA]
      rfl
     refine pure_ (i := 1) (N := (some 55)) (v := ?_) (a' := ?_) #[true, true, false, false, false, false, false, false, false, false] rfl rfl (by kernel_rfl) (fun _ _ _ h => h) (Or.inl ⟨by rfl, ?_⟩) ?_ ?_
     rotate_left
     ·intro w'
      go_simp
      with_reducible rfl
     rotate_left
     ·simp only [Act.put, spA]
      rfl
     refine pure_ (i := 2) (N := (some 56)) (v := ?_) (a' := ?_) #[true, true, true, false, false, false, false, false, false, false] rfl rfl (by kernel_rfl) (fun _ _ _ h => h) (Or.inl ⟨by rfl, ?_⟩) ?_ ?_
     rotate_left
     ·intro w'
      go_simp
      with_reducible rfl
     rotate_left
     ·simp only [Act.put, spA]
      rfl
     refine pure_ (i := 3) (N := (some 57)) (v := ?_) (a' := ?_) #[true, true, true, true, false, false, false, false, false, false] rfl rfl (by kernel_rfl) (fun _ _ _ h => h) (Or.inl ⟨by rfl, ?_⟩) ?_ ?_
     rotate_left
     ·intro w'
      go_simp
      with_reducible rfl
     rotate_left
     ·simp only [Act.put, spA]
      rfl
     refine take_ (i := 4) (N := (some 58)) (v := ?_) (a' := ?_) #[true, true, true, true, true, false, false, false, false, false] rfl rfl (by kernel_rfl) (fun _ _ _ h => h) (Or.inl ⟨by rfl, ?_⟩) hHeld ?_ ?_
     rotate_left
     ·rintro w' ⟨s0, s1, s2, s3⟩
      go_simp
      with_reducible rfl
     rotate_left
     ·simp only [Act.put, spA]
      rfl
     refine pure_ (i := 5) (N := (some 59)) (v := ?_) (a' := ?_) #[true, true, true, true, true, true, false, false, false, false] rfl rfl (by kernel_rfl) (fun _ _ _ h => h) (Or.inl ⟨by rfl, ?_⟩) ?_ ?_
     rotate_left
     ·intro w'
      go_simp
      with_reducible rfl
     rotate_left
     ·simp only [Act.put, spA]
      rfl
     refine take_ (i := 6) (N := (some 60)) (v := ?_) (a' := ?_) #[true, true, true, true, true, true, true, false, false, false] rfl rfl (by kernel_rfl) (fun _ _ _ h => h) (Or.inl ⟨by rfl, ?_⟩) hHeld ?_ ?_
     rotate_left
     ·rintro w' ⟨s0, s1, s2, s3⟩
      go_simp
      with_reducible rfl
     rotate_left
     ·simp only [Act.put, spA]
      rfl
     refine pure_ (i := 7) (N := (some 61)) (v := ?_) (a' := ?_) #[true, true, true, true, true, true, true, true, false, false] rfl rfl (by kernel_rfl) (fun _ _ _ h => h) (Or.inl ⟨by rfl, ?_⟩) ?_ ?_
     rotate_left
     ·intro w'
      go_simp
      with_reducible rfl
     rotate_left
     ·simp only [Act.put, spA]
      rfl
     refine take_ (i := 8) (N := (some 62)) (v := ?_) (a' := ?_) #[true, true, true, true, true, true, true, true, true, false] rfl rfl (by kernel_rfl) (fun _ _ _ h => h) (Or.inl ⟨by rfl, ?_⟩) hHeld ?_ ?_
     rotate_left
     ·rintro w' ⟨s0, s1, s2, s3⟩
      go_simp
      with_reducible rfl
     rotate_left
     ·simp only [Act.put, spA]
      rfl
     refine pure_ (i := 9) (N := (some 14)) (v := ?_) (a' := ?_) #[true, true, true, true, true, true, true, true, true, true] rfl rfl (by kernel_rfl) (fun _ _ _ h => h) (Or.inl ⟨by rfl, ?_⟩) ?_ ?_
     rotate_left
     ·intro w'
      go_simp
      with_reducible rfl
     rotate_left
     ·simp only [Act.put, spA]
      rfl
     refine done_ (by kernel_rfl) ?_
     clear d0 d1 d2 hHeld
     have pF : FREE = 1099511627776 := rfl
     by_cases hX1 : X < 1099511627776
     ·have dX : decide (X < 1099511627776) = true := decide_eq_true hX1
      have hw8 : wrap64 (X + xn) = X + xn := wrap_of _ (by have := HXB.out.1; have := OX.out.1; omega) (by have := OX.out.2; omega)
      have HW8 := Aside0.mk hw8
      clear hw8
      go_wp2_with fail
      refine start_ (n := 15) (S := fun w' : World => w'.cell? ⟨bx, 0, none⟩ = some (.int .i64 (ya : Int)) ∧ w'.cell? ⟨bx, 2, none⟩ = some (.int .i64 xn) ∧ w'.cell? ⟨g5, ya, none⟩ = some (.int .i64 Y)) (ds := [14]) #[false, false, false, false, false, false, false, false, false, false, false, false, false, false, false] (by kernel_rfl) rfl rfl (⟨d3, d5, hcell⟩) (fun hHeld => ?_)
      refine pure_ (i := 0) (N := (some 65)) (v := ?_) (a' := ?_) #[true, false, false, false, false, false, false, false, false, false, false, false, false, false, false] rfl rfl (by kernel_rfl) (fun _ _ _ h => h) (Or.inl ⟨by rfl, ?_⟩) ?_ ?_
      rotate_left
      ·intro w'
       go_simp
       with_reducible rfl
      rotate_left
      ·simp only [Act.put, spA]
       rfl
      refine pure_ (i := 1) (N := (some 66)) (v := ?_) (a' := ?_) #[true, true, false, false, false, false, false, false, false, false, false, false, false, false, false] rfl rfl (by kernel_rfl) (fun _ _ _ h => h) (Or.inl ⟨by rfl, ?_⟩) ?_ ?_
      rotate_left
      ·intro w'
       go_simp
       with_reducible rfl
      rotate_left
      ·simp only [Act.put, spA]
       rfl
      refine take_ (i := 2) (N := (some 67)) (v := ?_) (a' := ?_) #[true, true, true, false, false, false, false, false, false, false, false, false, false, false, false] rfl rfl (by kernel_rfl) (fun _ _ _ h => h) (Or.inl ⟨by rfl, ?_⟩) hHeld ?_ ?_
      rotate_left
      ·rintro w' ⟨s0, s1, s2⟩
       go_simp
       with_reducible rfl
      rotate_left
      ·simp only [Act.put, spA]
       rfl
      refine pure_ (i := 3) (N := (some 68)) (v := ?_) (a' := ?_) #[true, true, true, true, false, false, false, false, false, false, false, false, false, false, false] rfl rfl (by kernel_rfl) (fun _ _ _ h => h) (Or.inl ⟨by rfl, ?_⟩) ?_ ?_
      rotate_left
      ·intro w'
       go_simp
       with_reducible rfl
      rotate_left
      ·simp only [Act.put, spA]
       rfl
      refine pure_ (i := 4) (N := (some 69)) (v := ?_) (a' := ?_) #[true, true, true, true, true, false, false, false, false, false, false, false, false, false, false] rfl rfl (by kernel_rfl) (fun _ _ _ h => h) (Or.inl ⟨by rfl, ?_⟩) ?_ ?_
      rotate_left
      ·intro w'
       go_simp
       with_reducible rfl
      rotate_left
      ·simp only [Act.put, spA]
       rfl
      refine take_ (i := 5) (N := (some 70)) (v := ?_) (a' := ?_) #[true, true, true, true, true, true, false, false, false, false, false, false, false, false, false] rfl rfl (by kernel_rfl) (fun _ _ _ h => h) (Or.inl ⟨by rfl, ?_⟩) hHeld ?_ ?_
      rotate_left
      ·rintro w' ⟨s0, s1, s2⟩
       go_simp
       with_reducible rfl
      rotate_left
      ·simp only [Act.put, spA]
       rfl
      refine pure_ (i := 6) (N := (some 71)) (v := ?_) (a' := ?_) #[true, true, true, true, true, true, true, false, false, false, false, false, false, false, false] rfl rfl (by kernel_rfl) (fun _ _ _ h => h) (Or.inl ⟨by rfl, ?_⟩) ?_ ?_
      rotate_left
      ·intro w'
       go_simp
       with_reducible rfl
      rotate_left
      ·simp only [Act.put, spA]
       rfl
      refine take_ (i := 7) (N := (some 72)) (v := ?_) (a' := ?_) #[true, true, true, true, true, true, true, true, false, false, false, false, false, false, false] rfl rfl (by kernel_rfl) (fun _ _ _ h => h) (Or.inl ⟨by rfl, ?_⟩) hHeld ?_ ?_
      rotate_left
      ·rintro w' ⟨s0, s1, s2⟩
       go_simp
       with_reducible rfl
      rotate_left
      ·simp only [Act.put, spA]
       rfl
      refine pure_ (i := 8) (N := (some 73)) (v := ?_) (a' := ?_) #[true, true, true, true, true, true, true, true, true, false, false, false, false, false, false] rfl rfl (by kernel_rfl) (fun _ _ _ h => h) (Or.inl ⟨by rfl, ?_⟩) ?_ ?_
      rotate_left
      ·intro w'
       go_simp
       with_reducible rfl
      rotate_left
      ·simp only [Act.put, spA]
       rfl
      refine pure_ (i := 9) (N := (some 74)) (v := ?_) (a' := ?_) #[true, true, true, true, true, true, true, true, true, true, false, false, false, false, false] rfl rfl (by kernel_rfl) (fun _ _ _ h => h) (Or.inl ⟨by rfl, ?_⟩) ?_ ?_
      rotate_left
      ·intro w'
       go_simp
       with_reducible rfl
      rotate_left
      ·simp only [Act.put, spA]
       rfl
      refine take_ (i := 10) (N := (some 75)) (v := ?_) (a' := ?_) #[true, true, true, true, true, true, true, true, true, true, true, false, false, false, false] rfl rfl (by kernel_rfl) (fun _ _ _ h => h) (Or.inl ⟨by rfl, ?_⟩) hHeld ?_ ?_
      rotate_left
      ·rintro w' ⟨s0, s1, s2⟩
       go_simp
       with_reducible rfl
      rotate_left
      ·simp only [Act.put, spA]
       rfl
      refine pure_ (i := 11) (N := (some 76)) (v := ?_) (a' := ?_) #[true, true, true, true, true, true, true, true, true, true, true, true, false, false, false] rfl rfl (by kernel_rfl) (fun _ _ _ h => h) (Or.inl ⟨by rfl, ?_⟩) ?_ ?_
      rotate_left
      ·intro w'
       go_simp
       with_reducible rfl
      rotate_left
      ·simp only [Act.put, spA]
       rfl
      refine pure_ (i := 12) (N := (some 77)) (v := ?_) (a' := ?_) #[true, true, true, true, true, true, true, true, true, true, true, true, true, false, false] rfl rfl (by kernel_rfl) (fun _ _ _ h => h) (Or.inl ⟨by rfl, ?_⟩) ?_ ?_
      rotate_left
      ·intro w'
       go_simp
       with_reducible rfl
      rotate_left
      ·simp only [Act.put, spA]
       rfl
      refine pure_ (i := 13) (N := (some 78)) (v := ?_) (a' := ?_) #[true, true, true, true, true, true, true, true, true, true, true, true, true, true, false] rfl rfl (by kernel_rfl) (fun _ _ _ h => h) (Or.inl ⟨by rfl, ?_⟩) ?_ ?_
      rotate_left
      ·intro w'
       go_simp
       with_reducible rfl
      rotate_left
      ·simp only [Act.put, spA]
       rfl
      refine last_ (i := 14) (N := none) #[true, true, true, true, true, true, true, true, true, true, true, true, true, true, true] rfl rfl (by kernel_rfl) (by decide) (fun K hK => ?_)
      refine skip_ (w1 := ?_) (by rfl) rfl ?_ ?_
      rotate_left
      ·go_simp
       rfl
      refine hK.out _ _ ?_
      clear hK K
      refine done_ (by kernel_rfl) ?_
      go_wp2_with fail
      go_roundw
      case rel =>
       go_light
       have h := Kd.R_drew (Kd.R_drew (Kd.R_putn (enc := Value.int .i64) (h1 := fun _ => rfl) HRW.out (ya : Int) (if wrap64 (X + xn) < Y then wrap64 (X + xn) else Y)))
       have e : stepRow (ways n es fa (m - 1)) (es.take (j + 1)) (List.replicate (n + 1) FREE) = (stepRow (ways n es fa (m - 1)) (es.take j) (List.replicate (n + 1) FREE)).set (ya : Int).toNat (if wrap64 (X + xn) < Y then wrap64 (X + xn) else Y) := by
        rw [HST.out, step1]
        simp only []
        rw [HXE.out, if_pos (show X < FREE from hX1), HYE.out, HW8.out]
        rfl
       refine ⟨j + 1, by omega, by simp, blk_drew (blk_drew (blk_far HKE.out (by show g3 + 1 ≠ g5; omega) _)), Kd.R_drew (Kd.R_drew (Kd.R_far HT.out (fun k hk => hk.2) _)), by rw [e]; exact h, below_drew1 (below_drew1 (below_set HB.out (Kd.R_base HRW.out g5 (by simp [Value.ownBlock]))))⟩
      case measure => go_light; simp [intOf]; omega
     ·have dX : decide (X < 1099511627776) = false := decide_eq_false hX1
      go_wp2_with fail
      go_roundw
      case rel =>
       go_light
       have e : stepRow (ways n es fa (m - 1)) (es.take (j + 1)) (List.replicate (n + 1) FREE) = stepRow (ways n es fa (m - 1)) (es.take j) (List.replicate (n + 1) FREE) := by
        rw [HST.out, step1]
        simp only []
        rw [HXE.out, if_neg (show ¬ X < FREE from hX1)]
       refine ⟨j + 1, by omega, by simp, blk_drew HKE.out, Kd.R_drew HT.out, by rw [e]; exact Kd.R_drew HRW.out, below_drew1 HB.out⟩
      case measure => go_light; simp [intOf]; omega
    ·have hlj1 : decide ((j : Int) < (es.length : Int)) = false := decide_eq_false hlj
     have hje : j = es.length := by omega
     have hrw := HRW.out
     rw [hje, ways_last n es fa m hm1] at hrw
     clear HRW hje
     have HRW := Aside0.mk hrw
     clear hrw
     have hgg : g ≠ g3 + 1 ∧ g ≠ g5 := HT.out.1 g (by simp [Value.ownBlock])
     have HGG : Aside0 (some (g3 + 1) ≠ (Value.slice (some ⟨g, 0, none⟩) m cap).ownBlock) := ⟨by simp only [Value.ownBlock]; intro he; injection he with he; exact hgg.1 he.symm⟩
     have HNE : Aside0 (∀ k, k = g5 → k ≠ g3 + 1 ∧ some k ≠ (Value.slice (some ⟨g, 0, none⟩) m cap).ownBlock) := ⟨fun k hk => ⟨by omega, by subst hk; simp only [Value.ownBlock]; intro he; injection he with he; exact hgg.2 he.symm⟩⟩
     have hkl := blk_lt HKE.out
     have HFR : Aside0 (∀ k, wr.heap.size ≤ k → k ≠ g3 + 1) := ⟨fun k hk => by omega⟩
     have HMN : Aside0 (m ≤ 11) := ⟨by omega⟩
     clear hgg hkl
     have cc6 : wr.cell? ⟨g3 + 1, 0, none⟩ = some (.slice (some ⟨g, 0, none⟩) m cap) := (blk_cell HKE.out 0).trans rfl
     go_wp2_with (first | ((with_reducible refine gate_builtin (b := .append) (xs := #[.tmp 80, .tmp 82]) rfl ?_); at_builtin; refine Kd.R_append (Kd.slice 3 (Kd.int .i64)) (w0 := w) w.heap.size rfl (.tmp 80) (.tmp 82) 29 22 (.slice none 0 0) 24 rfl Try.underlying29 info22 rfl (by decide) (by omega) (.slice (some ⟨g, 0, none⟩) m cap) (tab n es fa m) (ways n es fa m) [.slice (some ⟨g5, 0, none⟩) (n + 1) cap5] (fun k => k ≠ g3 + 1) (fun k => k = g5) rfl rfl (Kd.M_row HRW.out) HNE.out HFR.out (Kd.R_mono HT.out (fun k hk => hk.1)) HB.out (below_size HB.out) ?aL ?_; (case aL => rw [tab_len]; have := HMN.out; omega); intro v7 w7 ho hb7 hg7 hat7; rw [← tab_succ] at ho; obtain ⟨g7, cap7, e7, -⟩ := Kd.R_form ho (by rw [tab_len]; omega); rw [tab_len] at e7; subst e7; have hke7 := blk_grown HKE.out hg7 HGG.out; have ho7 := Aside0.mk ho; have HB7 := Aside0.mk hb7; have cc7 : w7.cell? ⟨g3 + 1, 0, none⟩ = some (.slice (some ⟨g, 0, none⟩) m cap) := (blk_cell hke7 0).trans rfl; have cf7 : w7.frozen? ⟨g3 + 1, 0, none⟩ = false := blk_frozen hke7 0; have HKE7 := Aside0.mk hke7; clear ho hb7 hg7 hat7 hke7))
     go_roundw
     case rel =>
      go_light
      refine ⟨m + 1, g7, cap7, by omega, by omega, by simp, blk_put HKE7.out 0 _ rfl, Kd.R_far ho7.out (fun k hk => hk) _, below_set HB7.out (by omega)⟩
     case measure => go_light; simp [intOf]; omega
  ·have hlt1 : decide ((m : Int) < (many : Int)) = false := decide_eq_false hlt
   have hmm : many = m := by omega
   subst hmm
   have hwm2 : wrap64 ((many : Int) - 1) = (many : Int) - 1 := wrap_of _ (by omega) (by omega)
   have HWM2 := Aside0.mk hwm2
   clear hwm2
   obtain ⟨ad', eA', hy0, hy1, hy2⟩ := at_T78 (Kd.C_below HR1.out HB.out) (first : Int) (by omega) p0
   injection eA' with eA'
   subst eA'
   simp only [Int.toNat_natCast] at hy0 hy1 hy2
   rw [HFB.out] at hy1
   rw [HFN.out] at hy2
   have hkl := blk_lt HKE.out
   clear hy0
   go_wp2_with fail
   have hS0 : wo.drew.cell? ⟨(ad.add (first * 3)).block, (ad.add (first * 3)).off + 1, none⟩ = some (.int .i64 (fb : Int)) ∧ wo.drew.cell? ⟨(ad.add (first * 3)).block, (ad.add (first * 3)).off + 2, none⟩ = some (.int .i64 fn) := ⟨hy1, hy2⟩
   have hSB : ∀ w' : World, Below wo.heap.size wo w' → w'.cell? ⟨(ad.add (first * 3)).block, (ad.add (first * 3)).off + 1, none⟩ = some (.int .i64 (fb : Int)) ∧ w'.cell? ⟨(ad.add (first * 3)).block, (ad.add (first * 3)).off + 2, none⟩ = some (.int .i64 fn) :=
    fun w' hb => ⟨(hb.cell (World.block_lt_of_cell? wo _ hy1)).trans hy1, (hb.cell (World.block_lt_of_cell? wo _ hy2)).trans hy2⟩
   have HSB := Aside0.mk hSB
   clear hSB hy1 hy2
   refine start_ (n := 16) (S := fun w' : World => w'.cell? ⟨(ad.add (first * 3)).block, (ad.add (first * 3)).off + 1, none⟩ = some (.int .i64 (fb : Int)) ∧ w'.cell? ⟨(ad.add (first * 3)).block, (ad.add (first * 3)).off + 2, none⟩ = some (.int .i64 fn)) (ds := [15]) #[false, false, false, false, false, false, false, false, false, false, false, false, false, false, false, false] (by kernel_rfl) rfl rfl (hS0) (fun hHeld => ?_)
   refine pure_ (i := 0) (N := (some 84)) (v := ?_) (a' := ?_) #[true, false, false, false, false, false, false, false, false, false, false, false, false, false, false, false] rfl rfl (by kernel_rfl) (fun _ _ _ h => h) (Or.inl ⟨by rfl, ?_⟩) ?_ ?_
   rotate_left
   ·intro w'
    go_simp
    with_reducible rfl
   rotate_left
   ·simp only [Act.put, spA]
    rfl
   refine pure_ (i := 2) (N := (some 86)) (v := ?_) (a' := ?_) #[true, false, true, false, false, false, false, false, false, false, false, false, false, false, false, false] rfl rfl (by kernel_rfl) (fun _ _ _ h => h) (Or.inl ⟨by rfl, ?_⟩) ?_ ?_
   rotate_left
   ·intro w'
    go_simp
    with_reducible rfl
   rotate_left
   ·simp only [Act.put, spA]
    rfl
   refine pure_ (i := 3) (N := (some 87)) (v := ?_) (a' := ?_) #[true, false, true, true, false, false, false, false, false, false, false, false, false, false, false, false] rfl rfl (by kernel_rfl) (fun _ _ _ h => h) (Or.inl ⟨by rfl, ?_⟩) ?_ ?_
   rotate_left
   ·intro w'
    go_simp
    with_reducible rfl
   rotate_left
   ·simp only [Act.put, spA]
    rfl
   refine pure_ (i := 4) (N := (some 88)) (v := ?_) (a' := ?_) #[true, false, true, true, true, false, false, false, false, false, false, false, false, false, false, false] rfl rfl (by kernel_rfl) (fun _ _ _ h => h) (Or.inl ⟨by rfl, ?_⟩) ?_ ?_
   rotate_left
   ·intro w'
    go_simp
    with_reducible rfl
   rotate_left
   ·simp only [Act.put, spA]
    rfl
   refine pure_ (i := 5) (N := (some 89)) (v := ?_) (a' := ?_) #[true, false, true, true, true, true, false, false, false, false, false, false, false, false, false, false] rfl rfl (by kernel_rfl) (fun _ _ _ h => h) (Or.inl ⟨by rfl, ?_⟩) ?_ ?_
   rotate_left
   ·intro w'
    go_simp
    with_reducible rfl
   rotate_left
   ·simp only [Act.put, spA]
    rfl
   refine take_ (i := 6) (N := (some 90)) (v := ?_) (a' := ?_) #[true, false, true, true, true, true, true, false, false, false, false, false, false, false, false, false] rfl rfl (by kernel_rfl) (fun _ _ _ h => h) (Or.inl ⟨by rfl, ?_⟩) hHeld ?_ ?_
   rotate_left
   ·rintro w' ⟨s0, s1⟩
    go_simp
    with_reducible rfl
   rotate_left
   ·simp only [Act.put, spA]
    rfl
   refine pure_ (i := 7) (N := (some 91)) (v := ?_) (a' := ?_) #[true, false, true, true, true, true, true, true, false, false, false, false, false, false, false, false] rfl rfl (by kernel_rfl) (fun _ _ _ h => h) (Or.inl ⟨by rfl, ?_⟩) ?_ ?_
   rotate_left
   ·intro w'
    go_simp
    with_reducible rfl
   rotate_left
   ·simp only [Act.put, spA]
    rfl
   refine pure_ (i := 8) (N := (some 92)) (v := ?_) (a' := ?_) #[true, false, true, true, true, true, true, true, true, false, false, false, false, false, false, false] rfl rfl (by kernel_rfl) (fun _ _ _ h => h) (Or.inl ⟨by rfl, ?_⟩) ?_ ?_
   rotate_left
   ·intro w'
    go_simp
    with_reducible rfl
   rotate_left
   ·simp only [Act.put, spA]
    rfl
   refine pure_ (i := 9) (N := (some 93)) (v := ?_) (a' := ?_) #[true, false, true, true, true, true, true, true, true, true, false, false, false, false, false, false] rfl rfl (by kernel_rfl) (fun _ _ _ h => h) (Or.inl ⟨by rfl, ?_⟩) ?_ ?_
   rotate_left
   ·intro w'
    go_simp
    with_reducible rfl
   rotate_left
   ·simp only [Act.put, spA]
    rfl
   refine pure_ (i := 10) (N := (some 94)) (v := ?_) (a' := ?_) #[true, false, true, true, true, true, true, true, true, true, true, false, false, false, false, false] rfl rfl (by kernel_rfl) (fun _ _ _ h => h) (Or.inl ⟨by rfl, ?_⟩) ?_ ?_
   rotate_left
   ·intro w'
    go_simp
    with_reducible rfl
   rotate_left
   ·simp only [Act.put, spA]
    rfl
   refine take_ (i := 11) (N := (some 95)) (v := ?_) (a' := ?_) #[true, false, true, true, true, true, true, true, true, true, true, true, false, false, false, false] rfl rfl (by kernel_rfl) (fun _ _ _ h => h) (Or.inl ⟨by rfl, ?_⟩) hHeld ?_ ?_
   rotate_left
   ·rintro w' ⟨s0, s1⟩
    go_simp
    with_reducible rfl
   rotate_left
   ·simp only [Act.put, spA]
    rfl
   refine join_ (σ := Nat × Nat) 3 #[true, true, true, true, true, true, true, true, true, true, true, true, true, false, false, false] (fun s : Nat × Nat => [(85, .slice (some ⟨s.1, 0, none⟩) 1 1), (17, .pointer (some ⟨s.2, 0, none⟩))]) (fun (s : Nat × Nat) (w' : World) => Below wo.heap.size wo w' ∧ w'.heap[s.1]? = some (.cells #[.int .i64 (first : Int)] 3 (0, 0)) ∧ w'.heap[s.2]? = some (.cells #[.int .i64 0] 3 (0, 0)) ∧ s.1 ≠ s.2 ∧ wo.heap.size ≤ s.1 ∧ wo.heap.size ≤ s.2) ?cont (fun hcont => ?_)
   case cont =>
    rintro ⟨go, bs⟩ w10 ⟨hb10, hk10, hk11, hne, hl1, hl2⟩
    refine norm_ (a' := ?_) ?_ ?_
    rotate_left
    ·simp only [putAll, Act.put, spA]
     rfl
    simp only at hk10 hk11 hne hl1 hl2
    have bc10 : w10.cell? ⟨bs, 0, none⟩ = some (.int .i64 0) := (blk_cell hk11 0).trans rfl
    have bf10 : w10.frozen? ⟨bs, 0, none⟩ = false := blk_frozen hk11 0
    refine pure_ (i := 13) (N := (some 15)) (v := ?_) (a' := ?_) #[true, true, true, true, true, true, true, true, true, true, true, true, true, true, false, false] rfl rfl (by kernel_rfl) (fun _ _ _ h => h) (Or.inl ⟨by rfl, ?_⟩) ?_ ?_
    rotate_left
    ·intro w'
     go_simp
     with_reducible rfl
    rotate_left
    ·simp only [Act.put, spA]
     rfl
    refine pure_ (i := 14) (N := (some 16)) (v := ?_) (a' := ?_) #[true, true, true, true, true, true, true, true, true, true, true, true, true, true, true, false] rfl rfl (by kernel_rfl) (fun _ _ _ h => h) (Or.inl ⟨by rfl, ?_⟩) ?_ ?_
    rotate_left
    ·intro w'
     go_simp
     with_reducible rfl
    rotate_left
    ·simp only [Act.put, spA]
     rfl
    refine last_ (i := 15) (N := none) #[true, true, true, true, true, true, true, true, true, true, true, true, true, true, true, true] rfl rfl (by kernel_rfl) (by decide) (fun K hK => ?_)
    refine skip_ (w1 := ?_) (by rfl) rfl ?_ ?_
    rotate_left
    ·go_simp
     rfl
    refine hK.out _ _ ?_
    clear hK K
    refine done_ (by kernel_rfl) ?_
    have ht10 := Kd.R_below (Kd.R_bound HT.out) hb10
    have hke10 := blk_below HKE.out hb10
    have hbb10 := below_step HB.out hb10
    have hsz0 : w.heap.size ≤ wo.heap.size := HB.out.size
    generalize hw11 : (w10.setCell { block := bs, off := 0 } (Value.int IntKind.i64 fn)) = w11
    have HT11 : Aside0 (Kd.R (Kd.slice 3 (Kd.int .i64)) 22 w11 w.heap.size (fun k => k ≠ g3 + 1 ∧ k ≠ bs ∧ some k ≠ (Value.slice (some ⟨go, 0, none⟩) 1 1).ownBlock) (.slice (some ⟨g, 0, none⟩) many cap) (tab n es fa many)) := ⟨by
     rw [← hw11]
     refine (Kd.R_far (Kd.R_mono ht10 (fun k hk => ⟨hk.1, by have := hk.2.2.1; omega, ?_⟩)) (fun k hk => hk.2.1) _)
     have := hk.2.2.1
     simp only [Value.ownBlock]
     intro he
     injection he with he
     omega⟩
    have HKE11 : Aside0 (w11.heap[g3 + 1]? = some (.cells #[.slice (some ⟨g, 0, none⟩) many cap] 29 (0, 0))) := ⟨by
     rw [← hw11]
     exact (blk_far hke10 (by show g3 + 1 ≠ bs; omega) _)⟩
    have HKS11 : Aside0 (w11.heap[bs]? = some (.cells #[.int .i64 fn] 3 (0, 0))) := ⟨by
     rw [← hw11]
     exact (blk_put hk11 0 _ rfl)⟩
    have HO11 : Aside0 (Kd.R (Kd.int .i64) 3 w11 w.heap.size (fun k => k ≠ g3 + 1 ∧ k ≠ bs) (.slice (some ⟨go, 0, none⟩) 1 1) [(first : Int)]) := ⟨by
     rw [← hw11]
     refine (Kd.R_far (Kd.R_of_own (enc := Value.int .i64) (h1 := fun _ => rfl) ⟨rfl, .inr ⟨go, 1, #[.int .i64 (first : Int)], rfl, by omega, hk10, Nat.le_refl _, by simp [maxLen], rfl, rfl⟩⟩ (fun k hk => ?_)) (fun k hk => hk.2) _)
     have : go = k := by simpa [Value.ownBlock] using hk
     omega⟩
    have HB11 : Aside0 (Below w.heap.size w w11) := ⟨by
     rw [← hw11]
     exact (below_set hbb10 (by omega))⟩
    have hbs1 : w.heap.size ≤ bs := by omega
    have hbs2 : g3 + 1 ≠ bs := by omega
    clear hw11 bc10 bf10 ht10 hke10 hbb10 hk10 hk11 hb10 hl1 hl2 HSB HT HKE HB
    have hm1' : many - 1 < many := by omega
    have p8 : fb < n + 1 := by omega
    obtain ⟨adx, cx, hx1, hx2⟩ := tab_cells HT11.out (many - 1) fb hm1' p8
    obtain ⟨X0, hX0⟩ : ∃ X0, rd (ways n es fa (many - 1)) (fb : Int) = X0 := ⟨_, rfl⟩
    have hXB := ways_bd hoE fa (many - 1) (fb : Int)
    rw [hX0] at hx2 hXB
    have hGO := goes_calls (g3 + 1) bs ⟨g, 0, none⟩ adx many cap (n + 1) cx (many - 1) fb X0 fn 0 w11 ((blk_cell HKE11.out 0).trans rfl) ((blk_cell HKS11.out 0).trans rfl) hx1 hx2 hm1' p8
    have em : ((many - 1 : Nat) : Int) = (many : Int) - 1 := by omega
    rw [em] at hGO
    rw [goesB_eq X0 fn 0 (by have := hXB.1; omega) hXB.2 (by have := OO.out.1; omega) (by have := OO.out.2; omega) (by omega) (by omega)] at hGO
    have HGO := Aside0.mk hGO
    have hCS : cycleS n l1 first many = if X0 < FREE ∧ fn + X0 < 0 then some (goOn n es fa (first + 1) (many - 1) fb fn [(first : Int)]) else none := by
     unfold cycleS
     have ef : l1.getD first z78 = rd_T78 l1 first := by simp [rd_T78]
     simp only [ef]
     rw [HFA.out, HFB.out, HFN.out, ← HES.out, hX0]
    have HCS := Aside0.mk hCS
    clear hGO hx1 hx2 hXB hCS em hm1'
    have hwm2 := HWM2.out
    go_wp2_with fail
    refine HGO.out.mono ?_
    rintro e w12 ⟨rfl, hb12⟩
    have HT12 := Aside0.mk (Kd.R_below (Kd.R_bound HT11.out) hb12)
    have HKE12 := Aside0.mk (blk_below HKE11.out hb12)
    have HKS12 := Aside0.mk (blk_below HKS11.out hb12)
    have HO12 := Aside0.mk (Kd.R_below (Kd.R_bound HO11.out) hb12)
    have HB12 := Aside0.mk (below_step HB11.out hb12)
    clear hb12 HT11 HKE11 HKS11 HO11 HB11 HGO hwm2
    by_cases hgo : X0 < FREE ∧ fn + 0 + X0 < 0
    ·have dgo : decide (X0 < FREE ∧ fn + 0 + X0 < 0) = true := decide_eq_true hgo
     rw [dgo]
     have hcs := HCS.out
     rw [if_pos ⟨hgo.1, by have := hgo.2; omega⟩] at hcs
     clear HCS
     have HCS := Aside0.mk hcs
     clear hcs hgo dgo
     have hwm3 : wrap64 ((many : Int) - 2) = (many : Int) - 2 := wrap_of _ (by omega) (by omega)
     go_wp2_with fail
     go_step3
     go_wp2_with fail
     have HI12 := Aside0.mk (show Inv w w.heap.size (g3 + 1) bs g many cap n es fa (.slice (some ⟨go, 0, none⟩) 1 1) [(first : Int)] fn w12 from ⟨HKE12.out, HKS12.out, Kd.R_mono HT12.out (fun k hk => hk.1), Kd.R_mono HO12.out (fun k hk => hk.1), HB12.out, blk_lt HKE12.out, blk_lt HKS12.out, by omega, by omega⟩)
     clear HT12 HKE12 HKS12 HO12 HB12 hwm3
     go_loopw [15, 16, 19] (fun v15 v16 v19 wr => ∃ (k at_ : Nat) (z sum : Int) (o : List Int), k ≤ many - 1 ∧ at_ ≤ n ∧ z + 1 = (k : Int) ∧ v19 = .int .i64 z ∧ v16 = .int .i64 (at_ : Int) ∧ Inv w w.heap.size (g3 + 1) bs g many cap n es fa v15 o sum wr ∧
       1 ≤ o.length ∧ o.length + k ≤ many ∧ -(((many - k : Nat) : Int) * 2097152) ≤ sum ∧ sum ≤ ((many - k : Nat) : Int) * 2097152 ∧ goOn n es fa (first + 1) k at_ sum o = goOn n es fa (first + 1) (many - 1) fb fn [(first : Int)])
      (fun _ _ v19 _ => (intOf v19 + 1).toNat)
     case atStart => exact ⟨many - 1, fb, (many : Int) - 2, fn, [(first : Int)], by omega, by omega, by omega, rfl, rfl, HI12.out, by simp, by simp; omega, by have := OO.out.1; omega, by have := OO.out.2; omega, rfl⟩
     case round =>
      clear HI12
      obtain ⟨k, at_, z, sum, o, hk, hat_, hz, rfl, rfl, hI, ho1, ho2, hs1, hs2, hG⟩ := hrel
      have HI := Aside0.mk hI
      have HG := Aside0.mk hG
      have HSU := Aside0.mk (And.intro hs1 hs2)
      clear hI hG hs1 hs2
      obtain ⟨w13, hw13⟩ : ∃ w13, w13 = wr := ⟨_, rfl⟩
      subst hw13
      obtain ⟨vo, hvo⟩ : ∃ vo, vo = u15 := ⟨_, rfl⟩
      subst hvo
      by_cases hz0 : 0 ≤ z
      ·have dz : decide (0 ≤ z) = true := decide_eq_true hz0
       obtain ⟨s, rfl⟩ := Int.eq_ofNat_of_zero_le hz0
       have hks : k = s + 1 := by omega
       subst hks
       have HZ := Aside0.mk hz
       clear hz
       have p9 : (0 : Int) ≤ (s : Int) := hz0
       go_wp2_with fail
       go_loopw [15, 16, 20] (fun v15 v16 v20 wi => ∃ j : Nat, j ≤ es.length ∧ v15 = vo ∧ v16 = .int .i64 (at_ : Int) ∧ v20 = .int .i64 ((first + 1 + j : Nat) : Int) ∧ Below w13.heap.size w13 wi ∧
         nextE (ways n es fa s) at_ sum (es.drop j) (first + 1 + j) = nextE (ways n es fa s) at_ sum es (first + 1))
        (fun _ _ v20 _ => (l1.length : Int).toNat - (intOf v20).toNat)
       case atStart => exact ⟨0, by omega, rfl, rfl, by simp, Below.refl _ _, rfl⟩
       case round =>
        obtain ⟨j, hj, rfl, rfl, rfl, hb, hN⟩ := hrel
        have HI13 := HI
        clear HI
        have HI := Aside0.mk (Inv.below HI13.out rfl hb)
        have HN := Aside0.mk hN
        have HBR := Aside0.mk hb
        clear hb hN HI13
        obtain ⟨w15, hw15⟩ : ∃ w15, w15 = wr := ⟨_, rfl⟩
        subst hw15
        have hEL := HEL.out
        have eii : ((first : Int) + 1).toNat = first + 1 := by omega
        by_cases hlj : j < es.length
        ·have hij : ((first + 1 + j : Nat) : Int) < (l1.length : Int) := by omega
         have hlj1 : decide (((first + 1 + j : Nat) : Int) < (l1.length : Int)) = true := decide_eq_true hij
         obtain ⟨ade, eA, hx0, hx1, hx2⟩ := at_T78 (Kd.C_below HR1.out HI.out.b) ((first + 1 + j : Nat) : Int) (by omega) hij
         injection eA with eA
         subst eA
         simp only [Int.toNat_natCast] at hx0 hx1 hx2
         rw [← rd_drop, ← HES.out] at hx0 hx1 hx2
         have hoF := hoE (rd_T78 es j) (by simp [rd_T78, List.getD_eq_getElem?_getD, hlj])
         have hst := nextE_drop (ways n es fa s) at_ sum es (first + 1) j hlj
         rw [HN.out] at hst
         obtain ⟨xx, hxx⟩ : ∃ xx, rd_T78 es j = xx := ⟨_, rfl⟩
         rw [hxx] at hx0 hx1 hx2 hoF hst
         obtain ⟨xa, xb, xn⟩ := xx
         obtain ⟨o1, o2, o3, o4, o5, o6⟩ := hoF
         simp only at hx0 hx1 hx2 o1 o2 o3 o4 o5 o6 hst
         obtain ⟨ya, rfl⟩ := Int.eq_ofNat_of_zero_le o1
         obtain ⟨yb, rfl⟩ := Int.eq_ofNat_of_zero_le o3
         have OX := Aside0.mk (And.intro o5 o6)
         have HST := Aside0.mk hst
         have hyb : yb < n + 1 := by omega
         have hsm : s < many := by omega
         clear o1 o2 o3 o4 o5 o6 hst hxx hEL eii
         have etn : ((first : Int) + 1 + (j : Int)).toNat = first + 1 + j := by omega
         have hij2 : (first : Int) + 1 + (j : Int) < (l1.length : Int) := by omega
         have hij3 : decide ((first : Int) + 1 + (j : Int) < (l1.length : Int)) = true := decide_eq_true hij2
         have hij4 : 0 ≤ (first : Int) + 1 + (j : Int) := by omega
         have hb6 := below_alloc (Below.refl w15.heap.size w15) (Obj.cells #[Value.int IntKind.i64 ↑ya, Value.int IntKind.i64 ↑yb, Value.int IntKind.i64 xn] 78)
         have hk6 : (w15.alloc (Obj.cells #[Value.int IntKind.i64 ↑ya, Value.int IntKind.i64 ↑yb, Value.int IntKind.i64 xn] 78)).heap[w15.heap.size]? = some (.cells #[Value.int IntKind.i64 ↑ya, Value.int IntKind.i64 ↑yb, Value.int IntKind.i64 xn] 78 (0, 0)) := blk_new _ _
         obtain ⟨wq, hwq⟩ : ∃ wq, w15.alloc (Obj.cells #[Value.int IntKind.i64 ↑ya, Value.int IntKind.i64 ↑yb, Value.int IntKind.i64 xn] 78) = wq := ⟨_, rfl⟩
         rw [hwq] at hb6 hk6
         have HK6 := Aside0.mk hk6
         have hbq := below_step HBR.out hb6
         have HBQ := Aside0.mk hbq
         have HIQ := Aside0.mk (Inv.below HI.out rfl hb6)
         have q0 : wq.cell? ⟨w15.heap.size, 0, none⟩ = some (.int .i64 (ya : Int)) := (blk_cell hk6 0).trans rfl
         have q1 : wq.cell? ⟨w15.heap.size, 1, none⟩ = some (.int .i64 (yb : Int)) := (blk_cell hk6 1).trans rfl
         have q2 : wq.cell? ⟨w15.heap.size, 2, none⟩ = some (.int .i64 xn) := (blk_cell hk6 2).trans rfl
         clear hb6 hk6 hbq
         by_cases hea : (ya : Int) = (at_ : Int)
         ·have dq : ((ya : Int) == (at_ : Int)) = true := by simp [hea]
          have dq2 : decide ((ya : Int) = (at_ : Int)) = true := decide_eq_true hea
          obtain ⟨adx, cx, hz1, hz2⟩ := tab_cells HIQ.out.t s yb hsm hyb
          obtain ⟨X, hX⟩ : ∃ X, rd (ways n es fa s) (yb : Int) = X := ⟨_, rfl⟩
          have hXB := ways_bd hoE fa s (yb : Int)
          rw [hX] at hz2 hXB
          have hGO := goes_calls (g3 + 1) bs ⟨g, 0, none⟩ adx many cap (n + 1) cx s yb X sum xn wq ((blk_cell HIQ.out.ke 0).trans rfl) ((blk_cell HIQ.out.ks 0).trans rfl) hz1 hz2 hsm hyb
          rw [goesB_eq X sum xn (by have := hXB.1; omega) hXB.2 (by have := HSU.out.1; omega) (by have := HSU.out.2; omega) (by have := OX.out.1; omega) (by have := OX.out.2; omega)] at hGO
          have HGO := Aside0.mk hGO
          have hst := HST.out
          rw [hX] at hst
          have HST2 := Aside0.mk hst
          have HEA := Aside0.mk hea
          have HYA : Aside0 ((ya : Int) = (at_ : Int)) := ⟨hea⟩
          clear hGO hz1 hz2 hXB hX hst HST hea
          go_wp2_with fail
          refine HGO.out.mono ?_
          rintro e w16 ⟨rfl, hb16⟩
          have HI16 := Aside0.mk (Inv.below HIQ.out rfl hb16)
          have HK16 := Aside0.mk (blk_below HK6.out hb16)
          have HB16 := Aside0.mk (below_step HBQ.out hb16)
          clear hb16 HGO HIQ HBQ HK6 q0 q1 q2 hx0 hx1 hx2
          by_cases hG : X < FREE ∧ sum + xn + X < 0
          ·have dG : decide (X < FREE ∧ sum + xn + X < 0) = true := decide_eq_true hG
           rw [dG]
           have hst := HST2.out
           rw [if_pos ⟨HEA.out, hG⟩] at hst
           clear HST2 hG dG
           have HST3 := Aside0.mk hst
           clear hst
           have x1 : w16.drew.cell? ⟨w15.heap.size, 1, none⟩ = some (.int .i64 (yb : Int)) := (blk_cell (blk_drew HK16.out) 1).trans rfl
           have x2 : w16.drew.cell? ⟨w15.heap.size, 2, none⟩ = some (.int .i64 xn) := (blk_cell (blk_drew HK16.out) 2).trans rfl
           have x3 : w16.drew.cell? ⟨bs, 0, none⟩ = some (.int .i64 sum) := (blk_cell (blk_drew HI16.out.ks) 0).trans rfl
           have HOL : Aside0 (o.length ≤ 12) := ⟨by omega⟩
           clear hij hij2 hij3 hij4 hlj1 etn
           go_wp2_with fail
           refine start_ (n := 13) (S := fun w' : World => w'.cell? ⟨w15.heap.size, 1, none⟩ = some (.int .i64 (yb : Int)) ∧ w'.cell? ⟨w15.heap.size, 2, none⟩ = some (.int .i64 xn) ∧ w'.cell? ⟨bs, 0, none⟩ = some (.int .i64 sum)) (ds := [12]) #[false, false, false, false, false, false, false, false, false, false, false, false, false] (by kernel_rfl) rfl rfl (⟨x1, x2, x3⟩) (fun hHeld9 => ?_)
           refine pure_ (i := 0) (N := (some 134)) (v := ?_) (a' := ?_) #[true, false, false, false, false, false, false, false, false, false, false, false, false] rfl rfl (by kernel_rfl) (fun _ _ _ h => h) (Or.inl ⟨by rfl, ?_⟩) ?_ ?_
           rotate_left
           ·intro w'
            go_simp
            with_reducible rfl
           rotate_left
           ·simp only [Act.put, spA]
            rfl
           refine pure_ (i := 1) (N := (some 135)) (v := ?_) (a' := ?_) #[true, true, false, false, false, false, false, false, false, false, false, false, false] rfl rfl (by kernel_rfl) (fun _ _ _ h => h) (Or.inl ⟨by rfl, ?_⟩) ?_ ?_
           rotate_left
           ·intro w'
            go_simp
            with_reducible rfl
           rotate_left
           ·simp only [Act.put, spA]
            rfl
           refine pure_ (i := 4) (N := (some 138)) (v := ?_) (a' := ?_) #[true, true, false, false, true, false, false, false, false, false, false, false, false] rfl rfl (by kernel_rfl) (fun _ _ _ h => h) (Or.inl ⟨by rfl, ?_⟩) ?_ ?_
           rotate_left
           ·intro w'
            go_simp
            with_reducible rfl
           rotate_left
           ·simp only [Act.put, spA]
            rfl
           refine take_ (i := 5) (N := (some 139)) (v := ?_) (a' := ?_) #[true, true, false, false, true, true, false, false, false, false, false, false, false] rfl rfl (by kernel_rfl) (fun _ _ _ h => h) (Or.inl ⟨by rfl, ?_⟩) hHeld9 ?_ ?_
           rotate_left
           ·rintro w' ⟨s0, s1, s2⟩
            go_simp
            with_reducible rfl
           rotate_left
           ·simp only [Act.put, spA]
            rfl
           refine take_ (i := 6) (N := (some 140)) (v := ?_) (a' := ?_) #[true, true, false, false, true, true, true, false, false, false, false, false, false] rfl rfl (by kernel_rfl) (fun _ _ _ h => h) (Or.inl ⟨by rfl, ?_⟩) hHeld9 ?_ ?_
           rotate_left
           ·rintro w' ⟨s0, s1, s2⟩
            go_simp
            with_reducible rfl
           rotate_left
           ·simp only [Act.put, spA]
            rfl
           refine pure_ (i := 7) (N := (some 141)) (v := ?_) (a' := ?_) #[true, true, false, false, true, true, true, true, false, false, false, false, false] rfl rfl (by kernel_rfl) (fun _ _ _ h => h) (Or.inl ⟨by rfl, ?_⟩) ?_ ?_
           rotate_left
           ·intro w'
            go_simp
            with_reducible rfl
           rotate_left
           ·simp only [Act.put, spA]
            rfl
           refine take_ (i := 8) (N := (some 142)) (v := ?_) (a' := ?_) #[true, true, false, false, true, true, true, true, true, false, false, false, false] rfl rfl (by kernel_rfl) (fun _ _ _ h => h) (Or.inl ⟨by rfl, ?_⟩) hHeld9 ?_ ?_
           rotate_left
           ·rintro w' ⟨s0, s1, s2⟩
            go_simp
            with_reducible rfl
           rotate_left
           ·simp only [Act.put, spA]
            rfl
           refine pure_ (i := 9) (N := (some 143)) (v := ?_) (a' := ?_) #[true, true, false, false, true, true, true, true, true, true, false, false, false] rfl rfl (by kernel_rfl) (fun _ _ _ h => h) (Or.inl ⟨by rfl, ?_⟩) ?_ ?_
           rotate_left
           ·intro w'
            go_simp
            with_reducible rfl
           rotate_left
           ·simp only [Act.put, spA]
            rfl
           refine one_ (i := 2) (N := some 136) #[true, true, true, false, true, true, true, true, true, true, false, false, false] rfl rfl (by kernel_rfl) (by decide) (fun K hK => ?_)
           refine value_ (w1 := w16.drew.alloc (.cells #[.int .i64 ((first : Int) + 1 + (j : Int))] 3)) (v := ?_) (by rfl) rfl ?_ ?_
           rotate_left 1
           ·go_simp
            rfl
           refine hK.out _ _ ⟨((below_alloc (Below.refl _ _) _).cell (World.block_lt_of_cell? w16.drew _ x1)).trans x1, ((below_alloc (Below.refl _ _) _).cell (World.block_lt_of_cell? w16.drew _ x2)).trans x2, ((below_alloc (Below.refl _ _) _).cell (World.block_lt_of_cell? w16.drew _ x3)).trans x3⟩ (fun hHeld10 => ?_)
           clear hK K
           refine norm_ (a' := ?_) ?_ ?_
           rotate_left
           ·show Act.put _ (some 136) _ = _
            simp only [Act.put, spA]
            rfl
           refine one_ (i := 3) (N := some 137) #[true, true, true, true, true, true, true, true, true, true, false, false, false] rfl rfl (by kernel_rfl) (by decide) (fun K hK => ?_)
           refine Kd.R_append_step (Kd.int .i64) (w0 := w) w.heap.size (by rfl) (.tmp 134) (.tmp 136) 22 3 (.int .i64 0) 8 rfl Try.underlying22 info3 rfl (by decide) (by omega) u15 o ((first : Int) + 1 + (j : Int)) [.int .i64 ((first : Int) + 1 + (j : Int))] (fun k => k ≠ g3 + 1 ∧ k ≠ bs) (fun _ => False) rfl rfl rfl (fun _ hk => hk.elim) ?aF ?aO ?aB ?aS ?aL ?_
           (case aF => intro k hk; have h1 := HI16.out.lt9; have h2 := HI16.out.lts; have h3 : w16.heap.size ≤ k := hk; omega)
           (case aO => exact Kd.R_drew HI16.out.o)
           (case aB => exact below_drew1 HI16.out.b)
           (case aS => exact below_size (below_drew1 HI16.out.b))
           (case aL => have := HOL.out; omega)
           intro v14 w14 ho hb hg hat
           have HI14 := Aside0.mk (Inv.found (sum1 := wrap64 (sum + xn)) (Inv.below HI16.out rfl (below_drew1 (Below.refl _ _))) rfl ho hb hg hat)
           have HO14 := Aside0.mk ho
           have bc14 : w14.cell? ⟨bs, 0, none⟩ = some (.int .i64 sum) := (blk_cell (blk_grown (Inv.below HI16.out rfl (below_drew1 (Below.refl _ _))).ks hg (fun he => (HI16.out.o.1 bs he.symm).2 rfl)) 0).trans rfl
           have bf14 : w14.frozen? ⟨bs, 0, none⟩ = false := blk_frozen (blk_grown (Inv.below HI16.out rfl (below_drew1 (Below.refl _ _))).ks hg (fun he => (HI16.out.o.1 bs he.symm).2 rfl)) 0
           have hbx : some w15.heap.size ≠ u15.ownBlock := fun he => by have := Kd.R_lt HI.out.o _ he.symm; omega
           have hk14 := blk_grown (blk_drew HK16.out) hg hbx
           refine hK.out _ _ ⟨(blk_cell hk14 1).trans rfl, (blk_cell hk14 2).trans rfl, bc14⟩ (fun hHeld11 => ?_)
           clear hK K hk14 hbx ho hb hg hat
           refine norm_ (a' := ?_) ?_ ?_
           rotate_left
           ·show Act.put _ (some 137) _ = _
            simp only [Act.put, spA]
            rfl
           refine pure_ (i := 10) (N := (some 15)) (v := ?_) (a' := ?_) #[true, true, true, true, true, true, true, true, true, true, true, false, false] rfl rfl (by kernel_rfl) (fun _ _ _ h => h) (Or.inl ⟨by rfl, ?_⟩) ?_ ?_
           rotate_left
           ·intro w'
            go_simp
            with_reducible rfl
           rotate_left
           ·simp only [Act.put, spA]
            rfl
           refine pure_ (i := 11) (N := (some 16)) (v := ?_) (a' := ?_) #[true, true, true, true, true, true, true, true, true, true, true, true, false] rfl rfl (by kernel_rfl) (fun _ _ _ h => h) (Or.inl ⟨by rfl, ?_⟩) ?_ ?_
           rotate_left
           ·intro w'
            go_simp
            with_reducible rfl
           rotate_left
           ·simp only [Act.put, spA]
            rfl
           refine last_ (i := 12) (N := none) #[true, true, true, true, true, true, true, true, true, true, true, true, true] rfl rfl (by kernel_rfl) (by decide) (fun K hK => ?_)
           refine skip_ (w1 := ?_) (by rfl) rfl ?_ ?_
           rotate_left
           ·go_simp
            rfl
           refine hK.out _ _ ?_
           clear hK K
           refine done_ (by kernel_rfl) ?_
           clear hHeld9 hHeld10 hHeld11 x1 x2 x3
           go_wp2_with fail
           go_roundw
           case rel =>
            go_light
            have hg := HG.out
            rw [goOn_some _ _ _ _ _ _ _ _ _ _ HST3.out] at hg
            have hsu := HSU.out
            have hox := OX.out
            have ew : wrap64 (sum + xn) = sum + xn := wrap_of _ (by omega) (by omega)
            have hi := HI14.out
            rw [ew] at hi
            have ei : ((first + 1 + j : Nat) : Int) = (first : Int) + 1 + (j : Int) := by omega
            rw [ei] at hg
            refine ⟨s, yb, (s : Int) - 1, sum + xn, o ++ [(first : Int) + 1 + (j : Int)], by omega, by omega, by omega, by first | rfl | simp, rfl, by first | exact hi | (rw [ew]; exact hi), by simp, by simp; omega, by omega, by omega, hg⟩
           case measure => go_light; simp [intOf]
          ·have dG : decide (X < FREE ∧ sum + xn + X < 0) = false := decide_eq_false hG
           rw [dG]
           have hst := HST2.out
           rw [if_neg (fun hh => hG hh.2)] at hst
           clear HST2 hG dG
           have HST3 := Aside0.mk hst
           clear hst
           go_wp2_with fail
           go_roundw
           case rel =>
            go_light
            exact ⟨j + 1, by omega, rfl, rfl, by simp; omega, HB16.out, HST3.out.symm⟩
           case measure => go_light; simp [intOf]; omega
         ·have dq : ((ya : Int) == (at_ : Int)) = false := by simp; omega
          have dq2 : decide ((ya : Int) = (at_ : Int)) = false := decide_eq_false hea
          have hea2 : ¬ ya = at_ := by omega
          have hst := HST.out
          rw [if_neg (fun hh => hea hh.1)] at hst
          have HST3 := Aside0.mk hst
          have HWQ := Aside0.mk hwq
          clear hst HST hea hwq
          go_wp2_with fail
          go_roundw
          case rel =>
           go_light
           exact ⟨j + 1, by omega, rfl, rfl, by simp; omega, by rw [HWQ.out]; exact HBQ.out, HST3.out.symm⟩
          case measure => go_light; simp [intOf]; omega
        ·have hij : ¬ ((first + 1 + j : Nat) : Int) < (l1.length : Int) := by omega
         have hlj1 : decide (((first + 1 + j : Nat) : Int) < (l1.length : Int)) = false := decide_eq_false hij
         have hje : j = es.length := by omega
         have hn := HN.out
         rw [hje, List.drop_length] at hn
         have HN0 := Aside0.mk (show nextE (ways n es fa s) at_ sum es (first + 1) = none from hn.symm)
         clear hn hje HN hEL eii
         go_wp2_with fail
         go_roundw
         case rel =>
          go_light
          have hg := HG.out
          rw [goOn_none _ _ _ _ _ _ _ _ HN0.out] at hg
          have hsu := HSU.out
          refine ⟨s, at_, (s : Int) - 1, sum, o, by omega, hat_, by omega, rfl, rfl, HI.out, ho1, by omega, by omega, by omega, hg⟩
         case measure => go_light; simp [intOf]
      ·have dz : decide (0 ≤ z) = false := decide_eq_false hz0
       have hk0 : k = 0 := by omega
       subst hk0
       go_wp2_with fail
       go_ret
       exact ⟨_, rfl, HI.out.b, .inr ⟨o, by rw [HCS.out, ← HG.out]; rfl, ho1, Kd.R_mono HI.out.o (fun _ _ => trivial)⟩⟩
    ·have dgo : decide (X0 < FREE ∧ fn + 0 + X0 < 0) = false := decide_eq_false hgo
     rw [dgo]
     have hcs := HCS.out
     rw [if_neg (fun hh => hgo ⟨hh.1, by have := hh.2; omega⟩)] at hcs
     clear dgo hgo
     go_wp2_with fail
     simp only [Exit.noGoto]
     go_ret
     exact ⟨_, rfl, HB12.out, .inl ⟨hcs, rfl⟩⟩
   refine two_ (i := 1) (j := 12) (Ni := some 85) (Nj := some 17) #[true, true, true, true, true, true, true, true, true, true, true, true, false, false, false, false] #[true, false, true, true, true, true, true, true, true, true, true, true, true, false, false, false] rfl rfl rfl rfl (by kernel_rfl) (by decide) (by decide) (fun K hK => ?_) (fun K hK => ?_)
   ·refine value_ (v := ?_) (w1 := ?_) (by rfl) rfl ?_ ?_
    rotate_left 2
    ·go_simp
     constructor
     ·rfl
     ·rfl
    refine hK.out _ _ (HSB.out _ (by repeat (first | exact Below.refl _ _ | apply below_alloc | apply below_drew1))) (fun hHeld2 => ?_)
    clear hK K
    refine norm_ (a' := ?_) ?_ ?_
    rotate_left
    ·simp only [Act.put, spA]
     rfl
    refine one_ (i := 12) (N := some 17) #[true, true, true, true, true, true, true, true, true, true, true, true, true, false, false, false] rfl rfl (by kernel_rfl) (by decide) (fun K hK => ?_)
    refine value_ (v := ?_) (w1 := ?_) (by rfl) rfl ?_ ?_
    rotate_left 2
    ·go_simp
     constructor
     ·rfl
     ·rfl
    refine hK.out _ _ (HSB.out _ (by repeat (first | exact Below.refl _ _ | apply below_alloc | apply below_drew1))) (fun hHeld3 => ?_)
    clear hK K
    refine norm_ ?_ (hcont (wo.heap.size, wo.heap.size + 1) _ ⟨?_, ?_, ?_, ?_, ?_, ?_⟩)
    ·simp only [putAll, Act.put, spA]
     first | done | rfl
    ·repeat (first | exact Below.refl _ _ | apply below_alloc | apply below_drew1)
    ·first | exact blk_drew (blk_alloc (blk_drew (blk_new _ _)) _) | exact two_new _ _ _
    ·first | exact blk_drew (blk_alloc (blk_drew (blk_new _ _)) _) | exact two_new _ _ _
    ·show (_ : Nat) ≠ _
     omega
    ·show _ ≤ (_ : Nat)
     omega
    ·show _ ≤ (_ : Nat)
     omega
   ·refine value_ (v := ?_) (w1 := ?_) (by rfl) rfl ?_ ?_
    rotate_left 2
    ·go_simp
     constructor
     ·rfl
     ·rfl
    refine hK.out _ _ (HSB.out _ (by repeat (first | exact Below.refl _ _ | apply below_alloc | apply below_drew1))) (fun hHeld2 => ?_)
    clear hK K
    refine norm_ (a' := ?_) ?_ ?_
    rotate_left
    ·simp only [Act.put, spA]
     rfl
    refine one_ (i := 1) (N := some 85) #[true, true, true, true, true, true, true, true, true, true, true, true, true, false, false, false] rfl rfl (by kernel_rfl) (by decide) (fun K hK => ?_)
    refine value_ (v := ?_) (w1 := ?_) (by rfl) rfl ?_ ?_
    rotate_left 2
    ·go_simp
     constructor
     ·rfl
     ·rfl
    refine hK.out _ _ (HSB.out _ (by repeat (first | exact Below.refl _ _ | apply below_alloc | apply below_drew1))) (fun hHeld3 => ?_)
    clear hK K
    refine norm_ ?_ (hcont (wo.heap.size + 1, wo.heap.size) _ ⟨?_, ?_, ?_, ?_, ?_, ?_⟩)
    ·simp only [putAll, Act.put, spA]
     first | done | rfl
    ·repeat (first | exact Below.refl _ _ | apply below_alloc | apply below_drew1)
    ·first | exact blk_drew (blk_alloc (blk_drew (blk_new _ _)) _) | exact two_new _ _ _
    ·first | exact blk_drew (blk_alloc (blk_drew (blk_new _ _)) _) | exact two_new _ _ _
    ·show (_ : Nat) ≠ _
     omega
    ·show _ ≤ (_ : Nat)
     omega
    ·show _ ≤ (_ : Nat)
     omega
end Go.Proofs.Ytcnkjcbjlopkmaa.Q
