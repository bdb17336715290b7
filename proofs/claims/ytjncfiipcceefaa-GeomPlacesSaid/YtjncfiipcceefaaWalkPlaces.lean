import Derived.Test.YtjncfiipcceefaaPGeomPlacesx
import Derived.WalkKit
import Derived.Outline
import Derived.Deep.DeepMust
import Derived.Deep.RegionHeld3
import Derived.Deep.DeepCutAuto
import Derived.Lib.Hide
import Derived.KernelRfl
namespace Go.Proofs.Ytjncfiipcceefaa.WalkPlaces
open Go.RowKit Go.Proofs.Ytjncfiipcceefaa.PGeomPlaces
theorem bcell {W w1 : World} (hb : Below W.heap.size W w1) : (∀ b o, b < W.heap.size → w1.cell? ⟨b, o, none⟩ = W.cell? ⟨b, o, none⟩) :=
  fun b o h => hb.cell (p := ⟨b, o, none⟩) h
set_option maxRecDepth 100000 in
set_option maxHeartbeats 1000000 in
theorem places (a b c ino blk r1 r2 : Int) (r3 : Bool) (p1 p2 : Int) (p3 : Bool) (s1 s2 : Int) (s3 : Bool) (d : Bool) (w : World)
    (h1 : geom_Inode.f a b c ino = some (r1, r2, r3)) (h2 : bollardref04_Inode.f a b c ino = some (r1, r2, r3))
    (h3 : geom_Owner.f a b c ino = some (p1, p2, p3)) (h4 : bollardref04_Owner.f a b c ino = some (p1, p2, p3))
    (h5 : geom_Group.f a b c blk = some (s1, s2, s3)) (h6 : bollardref04_Group.f a b c blk = some (s1, s2, s3))
    (h7 : geom_IsData.f a b c blk = some d) (h8 : bollardref04_IsData.f a b c blk = some d) :
    Calls Try.prog 5 #[.agg #[.int .i64 a, .int .i64 b, .int .i64 c], .int .i64 ino, .int .i64 blk] w fun e w' => e = .returned (.bool true) ∧ Below w.heap.size w w' := by
  have H1 := Lib.hid h1
  have H2 := Lib.hid h2
  have H3 := Lib.hid h3
  have H4 := Lib.hid h4
  have H5 := Lib.hid h5
  have H6 := Lib.hid h6
  have H7 := Lib.hid h7
  have H8 := Lib.hid h8
  clear h1 h2 h3 h4 h5 h6 h7 h8
  go_enter Try.func5, Try.ntmps5
  have hw0 := Nat.le_refl w.heap.size
  go_wp2_with fail
  refine (geom_Inode.calls a b c ino r1 r2 r3 _ H1.out).mono ?_
  rintro e w1 ⟨rfl, hb1⟩
  have hB1 : Hid (Below w.heap.size w w1) := Lib.hid (((Below.refl _ _).alloc (Nat.le_refl _) _).trans (hb1.mono (by simp)))
  have c0 := bcell hb1 w.heap.size 0 (by simp)
  have c1 := bcell hb1 w.heap.size 1 (by simp)
  have c2 := bcell hb1 w.heap.size 2 (by simp)
  simp at c0 c1 c2
  have z1 : w.heap.size < w1.heap.size := by have := hb1.size; simp at this; omega
  clear hb1
  go_wp2_with fail
  refine (bollardref04_Inode.calls a b c ino r1 r2 r3 _ H2.out).mono ?_
  rintro e w2 ⟨rfl, hb2⟩
  have hB2 : Hid (Below w.heap.size w w2) := Lib.hid (hB1.out.trans (hb2.mono (by omega)))
  have d0 := (bcell hb2 w.heap.size 0 z1).trans c0
  have d1 := (bcell hb2 w.heap.size 1 z1).trans c1
  have d2 := (bcell hb2 w.heap.size 2 z1).trans c2
  have z2 : w.heap.size < w2.heap.size := Nat.lt_of_lt_of_le z1 hb2.size
  clear hb2 hB1 c0 c1 c2 z1
  have c0 := d0
  have c1 := d1
  have c2 := d2
  clear d0 d1 d2
  go_wp2_with fail
  refine (geom_Owner.calls a b c ino p1 p2 p3 _ H3.out).mono ?_
  rintro e w3 ⟨rfl, hb3⟩
  have hB3 : Hid (Below w.heap.size w w3) := Lib.hid (hB2.out.trans (hb3.mono (by omega)))
  have d0 := (bcell hb3 w.heap.size 0 z2).trans c0
  have d1 := (bcell hb3 w.heap.size 1 z2).trans c1
  have d2 := (bcell hb3 w.heap.size 2 z2).trans c2
  have z3 : w.heap.size < w3.heap.size := Nat.lt_of_lt_of_le z2 hb3.size
  clear hb3 hB2 c0 c1 c2 z2
  have c0 := d0
  have c1 := d1
  have c2 := d2
  clear d0 d1 d2
  go_wp2_with fail
  refine (bollardref04_Owner.calls a b c ino p1 p2 p3 _ H4.out).mono ?_
  rintro e w4 ⟨rfl, hb4⟩
  have hB4 : Hid (Below w.heap.size w w4) := Lib.hid (hB3.out.trans (hb4.mono (by omega)))
  have d0 := (bcell hb4 w.heap.size 0 z3).trans c0
  have d1 := (bcell hb4 w.heap.size 1 z3).trans c1
  have d2 := (bcell hb4 w.heap.size 2 z3).trans c2
  have z4 : w.heap.size < w4.heap.size := Nat.lt_of_lt_of_le z3 hb4.size
  clear hb4 hB3 c0 c1 c2 z3
  have c0 := d0
  have c1 := d1
  have c2 := d2
  clear d0 d1 d2
  go_wp2_with fail
  refine (geom_Group.calls a b c blk s1 s2 s3 _ H5.out).mono ?_
  rintro e w5 ⟨rfl, hb5⟩
  have hB5 : Hid (Below w.heap.size w w5) := Lib.hid (hB4.out.trans (hb5.mono (by omega)))
  have d0 := (bcell hb5 w.heap.size 0 z4).trans c0
  have d1 := (bcell hb5 w.heap.size 1 z4).trans c1
  have d2 := (bcell hb5 w.heap.size 2 z4).trans c2
  have z5 : w.heap.size < w5.heap.size := Nat.lt_of_lt_of_le z4 hb5.size
  clear hb5 hB4 c0 c1 c2 z4
  have c0 := d0
  have c1 := d1
  have c2 := d2
  clear d0 d1 d2
  go_wp2_with fail
  refine (bollardref04_Group.calls a b c blk s1 s2 s3 _ H6.out).mono ?_
  rintro e w6 ⟨rfl, hb6⟩
  have hB6 : Hid (Below w.heap.size w w6) := Lib.hid (hB5.out.trans (hb6.mono (by omega)))
  have d0 := (bcell hb6 w.heap.size 0 z5).trans c0
  have d1 := (bcell hb6 w.heap.size 1 z5).trans c1
  have d2 := (bcell hb6 w.heap.size 2 z5).trans c2
  have z6 : w.heap.size < w6.heap.size := Nat.lt_of_lt_of_le z5 hb6.size
  clear hb6 hB5 c0 c1 c2 z5
  have c0 := d0
  have c1 := d1
  have c2 := d2
  clear d0 d1 d2
  go_wp2_with fail
  have hB := hB6.out
  clear hB6
  go_region_held3 (fun w' => w'.cell? ⟨w.heap.size, 0, none⟩ = some (.int .i64 a) ∧ w'.cell? ⟨w.heap.size, 1, none⟩ = some (.int .i64 b) ∧ w'.cell? ⟨w.heap.size, 2, none⟩ = some (.int .i64 c) ∧ w.heap.size < w'.heap.size ∧ Below w.heap.size w w') (first | (exact ⟨c0, c1, c2, z6, hB.drew⟩) | (obtain ⟨k0, k1, k2, k3, k4⟩ := ‹_ ∧ _ ∧ _ ∧ _ ∧ _›; exact ⟨(bcell hbx _ _ k3).trans k0, (bcell hbx _ _ k3).trans k1, (bcell hbx _ _ k3).trans k2, Nat.lt_of_lt_of_le k3 hbx.size, k4.trans (hbx.mono (Nat.le_of_lt k3))⟩)) (first | (go_at_call 28; refine (geom_IsData.calls a b c blk d _ H7.out).mono ?_; rintro e wx ⟨rfl, hbx⟩) | (go_at_call 29; refine (bollardref04_IsData.calls a b c blk d _ H8.out).mono ?_; rintro e wx ⟨rfl, hbx⟩))
  all_goals (obtain ⟨_, _, _, _, hBz⟩ := ‹_ ∧ _ ∧ _ ∧ _ ∧ _›)
  go_wp2
  go_ret
  exact ⟨by simp, hBz⟩
end Go.Proofs.Ytjncfiipcceefaa.WalkPlaces
