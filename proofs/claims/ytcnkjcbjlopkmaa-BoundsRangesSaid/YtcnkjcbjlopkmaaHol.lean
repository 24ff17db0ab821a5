/- The call of Holds gives the plain function. -/
import Derived.Test.YtcnkjcbjlopkmaaHol0
namespace Go.Proofs.Ytcnkjcbjlopkmaa.Q
open Go.RowKit Go.Proofs.YtcnkjcbjlopkmaaW.PrintWords Go.Proofs.YtcnkjcbjlopkmaaW.PrintLast Go.Proofs.YtcnkjcbjlopkmaaW.PrintMore
set_option linter.unusedVariables false
set_option linter.unusedSimpArgs false

theorem firstBad_ix (vs : List Int) : ∀ (l : List S55) (i : Nat), firstBad vs l i = ixOf (breaks vs) l i
 | [], _ => rfl
 | d :: r, i => by
  simp only [firstBad, ixOf]
  rw [firstBad_ix vs r (i + 1)]

set_option maxHeartbeats 8000000 in
set_option maxRecDepth 100000 in
theorem bounds_Holds.calls (A0 : Option Addr) (c0 : Nat) (l0 : List (S55)) (A1 : Option Addr) (c1 : Nat) (l1 : List Int) (r : Int) (w : World) (hr0 : Kd.C k55 w A0 l0.length l0) (hc0 : l0.length ≤ c0) (hr1 : Kd.C (Kd.int .i64) w A1 l1.length l1) (hc1 : l1.length ≤ c1) (h : bounds_Holds.f l0 l1 = some r) :
  Calls Try.prog 25 #[.slice A0 l0.length c0, .slice A1 l1.length c1] w fun e w' => e = .returned (.int .i64 r) ∧ Below w.heap.size w w' := by
 have hr : r = ixOf (breaks l1) l0 0 := by
  have := Option.some.inj h
  rw [← this, firstBad_ix]
 subst hr
 clear h
 go_enter Try.func25, Try.ntmps25
 go_wp2_with fail
 generalize hw2 : (w.alloc (Obj.cells #[Value.slice A1 l1.length c1] 22)).alloc (Obj.cells #[Value.func (Fn.func 42) #[] #[Value.pointer (some { block := w.heap.size, off := 0 })]] 73) = w2
 have hB : Below w.heap.size w w2 := by rw [← hw2]; exact below_alloc (below_alloc (Below.refl _ _) _) _
 have h1 : w2.cell? ⟨w.heap.size, 0, none⟩ = some (.slice A1 l1.length c1) := by
  rw [← hw2]
  exact (blk_cell (blk_alloc (blk_new w _) _) 0).trans rfl
 have h2 : w2.cell? ⟨w.heap.size + 1, 0, none⟩ = some (Value.func (Fn.func 42) #[] #[Value.pointer (some { block := w.heap.size, off := 0 })]) := by
  rw [← hw2]
  have e_ : w.heap.size + 1 = (w.alloc (Obj.cells #[Value.slice A1 l1.length c1] 22)).heap.size := by simp
  rw [e_]
  exact (blk_cell (blk_new _ _) 0).trans rfl
 have hs : w.heap.size + 2 = w2.heap.size := by rw [← hw2]; simp
 clear hw2
 refine (ixD_calls (.pointer (some ⟨w.heap.size, 0, none⟩)) (.pointer (some ⟨w.heap.size + 1, 0, none⟩)) A0 c0 l0 (breaks l1) w2 (Kd.C_below hr0 hB) hc0 ?_).mono ?_
 ·intro j hj w1 hb1
  have g1 : w1.cell? ⟨w.heap.size, 0, none⟩ = some (.slice A1 l1.length c1) := (hb1.cell (World.block_lt_of_cell? w2 _ h1)).trans h1
  have g2 : w1.cell? ⟨w.heap.size + 1, 0, none⟩ = some (Value.func (Fn.func 42) #[] #[Value.pointer (some { block := w.heap.size, off := 0 })]) := (hb1.cell (World.block_lt_of_cell? w2 _ h2)).trans h2
  refine (hold2_calls A1 c1 l1 w.heap.size (w.heap.size + 1) (rd_T55 l0 j) w1 g1 g2 (Kd.C_below (Kd.C_below hr1 hB) hb1)).mono ?_
  rintro e w' ⟨rfl, hb⟩
  exact ⟨rfl, below_step hb1 hb⟩
 ·rintro e w' ⟨rfl, hb⟩
  have HB := Aside0.mk (below_step hB hb)
  clear hb hB h1 h2 hs hr0 hr1
  go_wp2_with fail
  go_ret
  exact ⟨rfl, HB.out⟩
end Go.Proofs.Ytcnkjcbjlopkmaa.Q
