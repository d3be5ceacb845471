/- An edge drawn: l3Some. (Printed by wip/drw_s.py.) -/
import Derived.Test.YtljggmgijadjaaaGreatDoorDrwE
namespace Go.Proofs.YtljggmgijadjaaaGreatDoor
open Go.RowKit Go.ChangeShapes Go.WideShapes Go.ChangeAt Go.Deep
set_option linter.unusedVariables false
def boxB : Rm → Bool
  | .box => true
  | _ => false
theorem box_of {role : List Rm} {slots : List Nat} {k j d : Nat} (h : ((List.range role.length).all fun j => j == k || !boxB (role.getD j .free)) = true) (hj : role[j]? = some .box) (hd : slots.getD k 0 = d := by rfl) : slots.getD j 0 = d := by
  have hlt := (List.getElem?_eq_some_iff.1 hj).1
  have := List.all_eq_true.1 h j (List.mem_range.2 hlt)
  rw [List.getD_eq_getElem?_getD, hj] at this
  have hjk : j = k := by simpa [boxB] using this
  rw [hjk, hd]
set_option maxRecDepth 4000 in
set_option maxHeartbeats 8000000 in
theorem l3Some_any (w : World) {cb : Nat} (hC : Cur w cb) {A : Option Addr} {n c : Nat} {B : Option Addr} {m d : Nat} (hn : n ≤ 5) :
    Calls Tryz.prog 57 #[.pointer (some ⟨cb, 0, none⟩), .agg #[.slice A n c, .slice B m d]] w fun e w' => ∃ x : E, e = .returned (.agg #[.int .i64 x.id, .int .i64 x.fr, .int .i64 x.to, .int .i64 x.lb]) ∧ Cur w' cb ∧ Tch cb (cb + 1) w w' := by
  have hcb := hC.lt
  have bG : Below w.heap.size w (w.alloc (.cells #[.slice A n c, .slice B m d] 27)) := (Below.refl _ _).alloc (Nat.le_refl _) _
  have bR : Below w.heap.size w ((w.alloc (.cells #[.slice A n c, .slice B m d] 27)).alloc (.cells zE 29)) := bG.alloc bG.size _
  have XG := (Blk.new w 27 #[.slice A n c, .slice B m d]).alloc (.cells zE 29)
  have XR := Blk.new (w.alloc (.cells #[.slice A n c, .slice B m d] 27)) 29 zE
  have hsz : (w.alloc (.cells #[.slice A n c, .slice B m d] 27)).heap.size = w.heap.size + 1 := by simp
  rw [hsz] at XR
  have C1 := hC.below bR
  have T1 : Tch cb (cb + 1) w ((w.alloc (.cells #[.slice A n c, .slice B m d] 27)).alloc (.cells zE 29)) := Tch.of_below bR
  generalize hw1 : (w.alloc (.cells #[.slice A n c, .slice B m d] 27)).alloc (.cells zE 29) = w1 at *
  have HW1 := Lib.hid hw1
  clear hw1 bG bR hsz
  go_enter Tryz.func57, Tryz.ntmps57
  go_wp2_with fail
  try rw [HW1.out]
  have hOK : Rh.Ok ⟨w, cb, w.heap.size, w.heap.size + 1, #[.slice A n c, .slice B m d], 19⟩ := ⟨hcb, Nat.le_refl _, Nat.le_succ _⟩
  refine wp_region_sl [6, 7, 8, 9, 10, 11, 12, 13, 14, 15, 16, 17, 18, 19, 20, 21, 22, 23, 5] (JH ⟨w, cb, w.heap.size, w.heap.size + 1, #[.slice A n c, .slice B m d], 19⟩ [.val (.pointer (some ⟨cb, 0, none⟩)), .int, .int, .val (.pointer (some ⟨cb, 0, none⟩)), .val (.pointer (some ⟨w.heap.size, 0, none⟩)), .val (.slice A n c), .val (.int .i64 n), .pos, .int, .val (.pointer (some ⟨cb, 0, none⟩)), .val (.pointer (some ⟨w.heap.size, 0, none⟩)), .val (.slice A n c), .val (.int .i64 n), .pos, .int, .val (.pointer (some ⟨cb, 0, none⟩)), .int, .edge, .box] [6, 7, 8, 9, 10, 11, 12, 13, 14, 15, 16, 17, 18, 19, 20, 21, 22, 23, 5]) (by kernel_rfl) (by kernel_rfl) (by decide) (by intro d hd; simp at hd; simp; omega) (by kernel_rfl) ?h0 ?hstep ?hend
  case h0 => exact ⟨(fun k R hR hk => absurd hk Bool.false_ne_true), ⟨XG.drew, XR.drew, C1.below ((Below.refl _ _).drew), T1.drew⟩⟩
  case hstep =>
    clear XG XR C1 T1
    intro i L f w' o b K ho hLi hwt hcl hJ hS HK HN
    have hi : i < 20 := by simpa using (Array.getElem?_eq_some_iff.1 ho).1
    rcases (show i = 0 ∨ i = 1 ∨ i = 2 ∨ i = 3 ∨ i = 4 ∨ i = 5 ∨ i = 6 ∨ i = 7 ∨ i = 8 ∨ i = 9 ∨ i = 10 ∨ i = 11 ∨ i = 12 ∨ i = 13 ∨ i = 14 ∨ i = 15 ∨ i = 16 ∨ i = 17 ∨ i = 18 ∨ i = 19 by omega) with rfl | rfl | rfl | rfl | rfl | rfl | rfl | rfl | rfl | rfl | rfl | rfl | rfl | rfl | rfl | rfl | rfl | rfl | rfl | rfl
    all_goals
      simp only [List.getElem?_toArray, List.getElem?_cons_zero, List.getElem?_cons_succ, Option.some.injEq] at ho
      subst ho
      clear hi
    · have s0 : b.tmps.getD 0 undef = .pointer (some ⟨cb, 0, none⟩) := hS.o 0 (by decide)
      go_simp
      exact HK.out 6 _ _ rfl (hJ.pure (show (0 : Nat) ≠ 19 by decide) (by decide) rfl (by decide) (show ([.val (.pointer (some ⟨cb, 0, none⟩)), .int, .int, .val (.pointer (some ⟨cb, 0, none⟩)), .val (.pointer (some ⟨w.heap.size, 0, none⟩)), .val (.slice A n c), .val (.int .i64 n), .pos, .int, .val (.pointer (some ⟨cb, 0, none⟩)), .val (.pointer (some ⟨w.heap.size, 0, none⟩)), .val (.slice A n c), .val (.int .i64 n), .pos, .int, .val (.pointer (some ⟨cb, 0, none⟩)), .int, .edge, .box] : List Rm)[0]? = some _ from rfl) rfl)
    · have s6 : b.tmps.getD 6 undef = .pointer (some ⟨cb, 0, none⟩) := (hS.i 6 (by decide)).trans (hJ.v 0 _ rfl (hwt ⟨0, .data⟩ (by simp) rfl))
      go_simp
      refine (l1Below_all w' hJ.w.cr 40 (by omega)).mono ?_
      rintro e w'' ⟨q, rfl, hq0, hq1, C', t'⟩
      go_simp
      exact HK.out 7 _ _ rfl (hJ.call hOK (show (1 : Nat) ≠ 19 by decide) (by decide) rfl (by decide) (show ([.val (.pointer (some ⟨cb, 0, none⟩)), .int, .int, .val (.pointer (some ⟨cb, 0, none⟩)), .val (.pointer (some ⟨w.heap.size, 0, none⟩)), .val (.slice A n c), .val (.int .i64 n), .pos, .int, .val (.pointer (some ⟨cb, 0, none⟩)), .val (.pointer (some ⟨w.heap.size, 0, none⟩)), .val (.slice A n c), .val (.int .i64 n), .pos, .int, .val (.pointer (some ⟨cb, 0, none⟩)), .int, .edge, .box] : List Rm)[1]? = some _ from rfl) t' C' ⟨_, rfl⟩)
    · obtain ⟨z1, h1⟩ : ∃ z, f 7 = .int .i64 z := hJ.v 1 _ rfl (hwt ⟨1, .data⟩ (by simp) rfl)
      have s7 : b.tmps.getD 7 undef = .int .i64 z1 := (hS.i 7 (by decide)).trans h1
      clear h1
      go_simp
      exact HK.out 8 _ _ rfl (hJ.pure (show (2 : Nat) ≠ 19 by decide) (by decide) rfl (by decide) (show ([.val (.pointer (some ⟨cb, 0, none⟩)), .int, .int, .val (.pointer (some ⟨cb, 0, none⟩)), .val (.pointer (some ⟨w.heap.size, 0, none⟩)), .val (.slice A n c), .val (.int .i64 n), .pos, .int, .val (.pointer (some ⟨cb, 0, none⟩)), .val (.pointer (some ⟨w.heap.size, 0, none⟩)), .val (.slice A n c), .val (.int .i64 n), .pos, .int, .val (.pointer (some ⟨cb, 0, none⟩)), .int, .edge, .box] : List Rm)[2]? = some _ from rfl) ⟨_, rfl⟩)
    · have s0 : b.tmps.getD 0 undef = .pointer (some ⟨cb, 0, none⟩) := hS.o 0 (by decide)
      go_simp
      exact HK.out 9 _ _ rfl (hJ.pure (show (3 : Nat) ≠ 19 by decide) (by decide) rfl (by decide) (show ([.val (.pointer (some ⟨cb, 0, none⟩)), .int, .int, .val (.pointer (some ⟨cb, 0, none⟩)), .val (.pointer (some ⟨w.heap.size, 0, none⟩)), .val (.slice A n c), .val (.int .i64 n), .pos, .int, .val (.pointer (some ⟨cb, 0, none⟩)), .val (.pointer (some ⟨w.heap.size, 0, none⟩)), .val (.slice A n c), .val (.int .i64 n), .pos, .int, .val (.pointer (some ⟨cb, 0, none⟩)), .int, .edge, .box] : List Rm)[3]? = some _ from rfl) rfl)
    · have s3 : b.tmps.getD 3 undef = .pointer (some ⟨w.heap.size, 0, none⟩) := hS.o 3 (by decide)
      go_simp
      exact HK.out 10 _ _ rfl (hJ.pure (show (4 : Nat) ≠ 19 by decide) (by decide) rfl (by decide) (show ([.val (.pointer (some ⟨cb, 0, none⟩)), .int, .int, .val (.pointer (some ⟨cb, 0, none⟩)), .val (.pointer (some ⟨w.heap.size, 0, none⟩)), .val (.slice A n c), .val (.int .i64 n), .pos, .int, .val (.pointer (some ⟨cb, 0, none⟩)), .val (.pointer (some ⟨w.heap.size, 0, none⟩)), .val (.slice A n c), .val (.int .i64 n), .pos, .int, .val (.pointer (some ⟨cb, 0, none⟩)), .int, .edge, .box] : List Rm)[4]? = some _ from rfl) rfl)
    · have s10 : b.tmps.getD 10 undef = .pointer (some ⟨w.heap.size, 0, none⟩) := (hS.i 10 (by decide)).trans (hJ.v 4 _ rfl (hwt ⟨4, .data⟩ (by simp) rfl))
      have k0 : w'.cell? ⟨w.heap.size, 0, none⟩ = some (.slice A n c) := hJ.w.xg.cell 0
      go_simp
      exact HK.out 11 _ _ rfl (hJ.pure (show (5 : Nat) ≠ 19 by decide) (by decide) rfl (by decide) (show ([.val (.pointer (some ⟨cb, 0, none⟩)), .int, .int, .val (.pointer (some ⟨cb, 0, none⟩)), .val (.pointer (some ⟨w.heap.size, 0, none⟩)), .val (.slice A n c), .val (.int .i64 n), .pos, .int, .val (.pointer (some ⟨cb, 0, none⟩)), .val (.pointer (some ⟨w.heap.size, 0, none⟩)), .val (.slice A n c), .val (.int .i64 n), .pos, .int, .val (.pointer (some ⟨cb, 0, none⟩)), .int, .edge, .box] : List Rm)[5]? = some _ from rfl) rfl)
    · have s11 : b.tmps.getD 11 undef = .slice A n c := (hS.i 11 (by decide)).trans (hJ.v 5 _ rfl (hwt ⟨5, .data⟩ (by simp) rfl))
      go_simp
      exact HK.out 12 _ _ rfl (hJ.pure (show (6 : Nat) ≠ 19 by decide) (by decide) rfl (by decide) (show ([.val (.pointer (some ⟨cb, 0, none⟩)), .int, .int, .val (.pointer (some ⟨cb, 0, none⟩)), .val (.pointer (some ⟨w.heap.size, 0, none⟩)), .val (.slice A n c), .val (.int .i64 n), .pos, .int, .val (.pointer (some ⟨cb, 0, none⟩)), .val (.pointer (some ⟨w.heap.size, 0, none⟩)), .val (.slice A n c), .val (.int .i64 n), .pos, .int, .val (.pointer (some ⟨cb, 0, none⟩)), .int, .edge, .box] : List Rm)[6]? = some _ from rfl) rfl)
    · have s12 : b.tmps.getD 12 undef = .int .i64 n := (hS.i 12 (by decide)).trans (hJ.v 6 _ rfl (hwt ⟨6, .data⟩ (by simp) rfl))
      go_simp
      all_goals
        exact HK.out 13 _ _ rfl (hJ.pure (show (7 : Nat) ≠ 19 by decide) (by decide) rfl (by decide) (show ([.val (.pointer (some ⟨cb, 0, none⟩)), .int, .int, .val (.pointer (some ⟨cb, 0, none⟩)), .val (.pointer (some ⟨w.heap.size, 0, none⟩)), .val (.slice A n c), .val (.int .i64 n), .pos, .int, .val (.pointer (some ⟨cb, 0, none⟩)), .val (.pointer (some ⟨w.heap.size, 0, none⟩)), .val (.slice A n c), .val (.int .i64 n), .pos, .int, .val (.pointer (some ⟨cb, 0, none⟩)), .int, .edge, .box] : List Rm)[7]? = some _ from rfl) ⟨_, by omega, rfl⟩)
    · have s9 : b.tmps.getD 9 undef = .pointer (some ⟨cb, 0, none⟩) := (hS.i 9 (by decide)).trans (hJ.v 3 _ rfl (hwt ⟨3, .data⟩ (by simp) rfl))
      obtain ⟨z7, p7, h7⟩ : ∃ z, 0 < z ∧ f 13 = .int .i64 z := hJ.v 7 _ rfl (hwt ⟨7, .data⟩ (by simp) rfl)
      have s13 : b.tmps.getD 13 undef = .int .i64 z7 := (hS.i 13 (by decide)).trans h7
      clear h7
      go_simp
      refine (l1Below_all w' hJ.w.cr z7 p7).mono ?_
      rintro e w'' ⟨q, rfl, hq0, hq1, C', t'⟩
      go_simp
      exact HK.out 14 _ _ rfl (hJ.call hOK (show (8 : Nat) ≠ 19 by decide) (by decide) rfl (by decide) (show ([.val (.pointer (some ⟨cb, 0, none⟩)), .int, .int, .val (.pointer (some ⟨cb, 0, none⟩)), .val (.pointer (some ⟨w.heap.size, 0, none⟩)), .val (.slice A n c), .val (.int .i64 n), .pos, .int, .val (.pointer (some ⟨cb, 0, none⟩)), .val (.pointer (some ⟨w.heap.size, 0, none⟩)), .val (.slice A n c), .val (.int .i64 n), .pos, .int, .val (.pointer (some ⟨cb, 0, none⟩)), .int, .edge, .box] : List Rm)[8]? = some _ from rfl) t' C' ⟨_, rfl⟩)
    · have s0 : b.tmps.getD 0 undef = .pointer (some ⟨cb, 0, none⟩) := hS.o 0 (by decide)
      go_simp
      exact HK.out 15 _ _ rfl (hJ.pure (show (9 : Nat) ≠ 19 by decide) (by decide) rfl (by decide) (show ([.val (.pointer (some ⟨cb, 0, none⟩)), .int, .int, .val (.pointer (some ⟨cb, 0, none⟩)), .val (.pointer (some ⟨w.heap.size, 0, none⟩)), .val (.slice A n c), .val (.int .i64 n), .pos, .int, .val (.pointer (some ⟨cb, 0, none⟩)), .val (.pointer (some ⟨w.heap.size, 0, none⟩)), .val (.slice A n c), .val (.int .i64 n), .pos, .int, .val (.pointer (some ⟨cb, 0, none⟩)), .int, .edge, .box] : List Rm)[9]? = some _ from rfl) rfl)
    · have s3 : b.tmps.getD 3 undef = .pointer (some ⟨w.heap.size, 0, none⟩) := hS.o 3 (by decide)
      go_simp
      exact HK.out 16 _ _ rfl (hJ.pure (show (10 : Nat) ≠ 19 by decide) (by decide) rfl (by decide) (show ([.val (.pointer (some ⟨cb, 0, none⟩)), .int, .int, .val (.pointer (some ⟨cb, 0, none⟩)), .val (.pointer (some ⟨w.heap.size, 0, none⟩)), .val (.slice A n c), .val (.int .i64 n), .pos, .int, .val (.pointer (some ⟨cb, 0, none⟩)), .val (.pointer (some ⟨w.heap.size, 0, none⟩)), .val (.slice A n c), .val (.int .i64 n), .pos, .int, .val (.pointer (some ⟨cb, 0, none⟩)), .int, .edge, .box] : List Rm)[10]? = some _ from rfl) rfl)
    · have s16 : b.tmps.getD 16 undef = .pointer (some ⟨w.heap.size, 0, none⟩) := (hS.i 16 (by decide)).trans (hJ.v 10 _ rfl (hwt ⟨10, .data⟩ (by simp) rfl))
      have k0 : w'.cell? ⟨w.heap.size, 0, none⟩ = some (.slice A n c) := hJ.w.xg.cell 0
      go_simp
      exact HK.out 17 _ _ rfl (hJ.pure (show (11 : Nat) ≠ 19 by decide) (by decide) rfl (by decide) (show ([.val (.pointer (some ⟨cb, 0, none⟩)), .int, .int, .val (.pointer (some ⟨cb, 0, none⟩)), .val (.pointer (some ⟨w.heap.size, 0, none⟩)), .val (.slice A n c), .val (.int .i64 n), .pos, .int, .val (.pointer (some ⟨cb, 0, none⟩)), .val (.pointer (some ⟨w.heap.size, 0, none⟩)), .val (.slice A n c), .val (.int .i64 n), .pos, .int, .val (.pointer (some ⟨cb, 0, none⟩)), .int, .edge, .box] : List Rm)[11]? = some _ from rfl) rfl)
    · have s17 : b.tmps.getD 17 undef = .slice A n c := (hS.i 17 (by decide)).trans (hJ.v 11 _ rfl (hwt ⟨11, .data⟩ (by simp) rfl))
      go_simp
      exact HK.out 18 _ _ rfl (hJ.pure (show (12 : Nat) ≠ 19 by decide) (by decide) rfl (by decide) (show ([.val (.pointer (some ⟨cb, 0, none⟩)), .int, .int, .val (.pointer (some ⟨cb, 0, none⟩)), .val (.pointer (some ⟨w.heap.size, 0, none⟩)), .val (.slice A n c), .val (.int .i64 n), .pos, .int, .val (.pointer (some ⟨cb, 0, none⟩)), .val (.pointer (some ⟨w.heap.size, 0, none⟩)), .val (.slice A n c), .val (.int .i64 n), .pos, .int, .val (.pointer (some ⟨cb, 0, none⟩)), .int, .edge, .box] : List Rm)[12]? = some _ from rfl) rfl)
    · have s18 : b.tmps.getD 18 undef = .int .i64 n := (hS.i 18 (by decide)).trans (hJ.v 12 _ rfl (hwt ⟨12, .data⟩ (by simp) rfl))
      go_simp
      all_goals
        exact HK.out 19 _ _ rfl (hJ.pure (show (13 : Nat) ≠ 19 by decide) (by decide) rfl (by decide) (show ([.val (.pointer (some ⟨cb, 0, none⟩)), .int, .int, .val (.pointer (some ⟨cb, 0, none⟩)), .val (.pointer (some ⟨w.heap.size, 0, none⟩)), .val (.slice A n c), .val (.int .i64 n), .pos, .int, .val (.pointer (some ⟨cb, 0, none⟩)), .val (.pointer (some ⟨w.heap.size, 0, none⟩)), .val (.slice A n c), .val (.int .i64 n), .pos, .int, .val (.pointer (some ⟨cb, 0, none⟩)), .int, .edge, .box] : List Rm)[13]? = some _ from rfl) ⟨_, by omega, rfl⟩)
    · have s15 : b.tmps.getD 15 undef = .pointer (some ⟨cb, 0, none⟩) := (hS.i 15 (by decide)).trans (hJ.v 9 _ rfl (hwt ⟨9, .data⟩ (by simp) rfl))
      obtain ⟨z13, p13, h13⟩ : ∃ z, 0 < z ∧ f 19 = .int .i64 z := hJ.v 13 _ rfl (hwt ⟨13, .data⟩ (by simp) rfl)
      have s19 : b.tmps.getD 19 undef = .int .i64 z13 := (hS.i 19 (by decide)).trans h13
      clear h13
      go_simp
      refine (l1Below_all w' hJ.w.cr z13 p13).mono ?_
      rintro e w'' ⟨q, rfl, hq0, hq1, C', t'⟩
      go_simp
      exact HK.out 20 _ _ rfl (hJ.call hOK (show (14 : Nat) ≠ 19 by decide) (by decide) rfl (by decide) (show ([.val (.pointer (some ⟨cb, 0, none⟩)), .int, .int, .val (.pointer (some ⟨cb, 0, none⟩)), .val (.pointer (some ⟨w.heap.size, 0, none⟩)), .val (.slice A n c), .val (.int .i64 n), .pos, .int, .val (.pointer (some ⟨cb, 0, none⟩)), .val (.pointer (some ⟨w.heap.size, 0, none⟩)), .val (.slice A n c), .val (.int .i64 n), .pos, .int, .val (.pointer (some ⟨cb, 0, none⟩)), .int, .edge, .box] : List Rm)[14]? = some _ from rfl) t' C' ⟨_, rfl⟩)
    · have s0 : b.tmps.getD 0 undef = .pointer (some ⟨cb, 0, none⟩) := hS.o 0 (by decide)
      go_simp
      exact HK.out 21 _ _ rfl (hJ.pure (show (15 : Nat) ≠ 19 by decide) (by decide) rfl (by decide) (show ([.val (.pointer (some ⟨cb, 0, none⟩)), .int, .int, .val (.pointer (some ⟨cb, 0, none⟩)), .val (.pointer (some ⟨w.heap.size, 0, none⟩)), .val (.slice A n c), .val (.int .i64 n), .pos, .int, .val (.pointer (some ⟨cb, 0, none⟩)), .val (.pointer (some ⟨w.heap.size, 0, none⟩)), .val (.slice A n c), .val (.int .i64 n), .pos, .int, .val (.pointer (some ⟨cb, 0, none⟩)), .int, .edge, .box] : List Rm)[15]? = some _ from rfl) rfl)
    · have s21 : b.tmps.getD 21 undef = .pointer (some ⟨cb, 0, none⟩) := (hS.i 21 (by decide)).trans (hJ.v 15 _ rfl (hwt ⟨15, .data⟩ (by simp) rfl))
      go_simp
      refine (l1Below_all w' hJ.w.cr 3 (by omega)).mono ?_
      rintro e w'' ⟨q, rfl, hq0, hq1, C', t'⟩
      go_simp
      exact HK.out 22 _ _ rfl (hJ.call hOK (show (16 : Nat) ≠ 19 by decide) (by decide) rfl (by decide) (show ([.val (.pointer (some ⟨cb, 0, none⟩)), .int, .int, .val (.pointer (some ⟨cb, 0, none⟩)), .val (.pointer (some ⟨w.heap.size, 0, none⟩)), .val (.slice A n c), .val (.int .i64 n), .pos, .int, .val (.pointer (some ⟨cb, 0, none⟩)), .val (.pointer (some ⟨w.heap.size, 0, none⟩)), .val (.slice A n c), .val (.int .i64 n), .pos, .int, .val (.pointer (some ⟨cb, 0, none⟩)), .int, .edge, .box] : List Rm)[16]? = some _ from rfl) t' C' ⟨_, rfl⟩)
    · obtain ⟨z2, h2⟩ : ∃ z, f 8 = .int .i64 z := hJ.v 2 _ rfl (hwt ⟨2, .data⟩ (by simp) rfl)
      have s8 : b.tmps.getD 8 undef = .int .i64 z2 := (hS.i 8 (by decide)).trans h2
      clear h2
      rw [Array.getD_eq_getD_getElem?] at s8
      obtain ⟨z8, h8⟩ : ∃ z, f 14 = .int .i64 z := hJ.v 8 _ rfl (hwt ⟨8, .data⟩ (by simp) rfl)
      have s14 : b.tmps.getD 14 undef = .int .i64 z8 := (hS.i 14 (by decide)).trans h8
      clear h8
      rw [Array.getD_eq_getD_getElem?] at s14
      obtain ⟨z14, h14⟩ : ∃ z, f 20 = .int .i64 z := hJ.v 14 _ rfl (hwt ⟨14, .data⟩ (by simp) rfl)
      have s20 : b.tmps.getD 20 undef = .int .i64 z14 := (hS.i 20 (by decide)).trans h14
      clear h14
      rw [Array.getD_eq_getD_getElem?] at s20
      obtain ⟨z16, h16⟩ : ∃ z, f 22 = .int .i64 z := hJ.v 16 _ rfl (hwt ⟨16, .data⟩ (by simp) rfl)
      have s22 : b.tmps.getD 22 undef = .int .i64 z16 := (hS.i 22 (by decide)).trans h16
      clear h16
      rw [Array.getD_eq_getD_getElem?] at s22
      go_simp
      exact HK.out 23 _ _ rfl (hJ.pure (show (17 : Nat) ≠ 19 by decide) (by decide) rfl (by decide) (show ([.val (.pointer (some ⟨cb, 0, none⟩)), .int, .int, .val (.pointer (some ⟨cb, 0, none⟩)), .val (.pointer (some ⟨w.heap.size, 0, none⟩)), .val (.slice A n c), .val (.int .i64 n), .pos, .int, .val (.pointer (some ⟨cb, 0, none⟩)), .val (.pointer (some ⟨w.heap.size, 0, none⟩)), .val (.slice A n c), .val (.int .i64 n), .pos, .int, .val (.pointer (some ⟨cb, 0, none⟩)), .int, .edge, .box] : List Rm)[17]? = some _ from rfl) ⟨⟨z2, z8, z14, z16⟩, rfl⟩)
    · have L19 : L 19 = false := by
        cases h : L 19 with
        | false => rfl
        | true => exact absurd (hcl 19 _ rfl h ⟨18, .data⟩ (by simp) rfl) (by rw [hLi]; simp)
      go_simp
      have X' := Blk.new w' 29 zE
      have hg1 : w.heap.size < w'.heap.size := hJ.w.xg.lt
      have hg2 : w.heap.size + 1 < w'.heap.size := hJ.w.xr.lt
      exact HK.out 5 _ _ rfl (hJ.al hOK (show (18 : Nat) ≠ 19 by decide) (by decide) rfl (by decide) (show ([.val (.pointer (some ⟨cb, 0, none⟩)), .int, .int, .val (.pointer (some ⟨cb, 0, none⟩)), .val (.pointer (some ⟨w.heap.size, 0, none⟩)), .val (.slice A n c), .val (.int .i64 n), .pos, .int, .val (.pointer (some ⟨cb, 0, none⟩)), .val (.pointer (some ⟨w.heap.size, 0, none⟩)), .val (.slice A n c), .val (.int .i64 n), .pos, .int, .val (.pointer (some ⟨cb, 0, none⟩)), .int, .edge, .box] : List Rm)[18]? = some _ from rfl) _ ⟨w'.heap.size, rfl, Nat.le_of_lt hg1, Nat.ne_of_gt hg1, Nat.ne_of_gt hg2, fun _ => X', fun hl => by rw [set1_ne (show (19 : Nat) ≠ 18 by decide)] at hl; exact absurd hl (by show ¬ L 19 = true; rw [L19]; simp)⟩)
    · obtain ⟨g', hf5, hg0, hg1, hg2, hX, _⟩ := hJ.v 18 _ rfl (hwt ⟨18, .data⟩ (by simp) rfl)
      replace hf5 : f 5 = .pointer (some ⟨g', 0, none⟩) := hf5
      have s5 : b.tmps.getD 5 undef = .pointer (some ⟨g', 0, none⟩) := (hS.i 5 (by decide)).trans hf5
      obtain ⟨x', hx'⟩ : ∃ e : E, f 23 = .agg #[.int .i64 e.id, .int .i64 e.fr, .int .i64 e.to, .int .i64 e.lb] := hJ.v 17 _ rfl (hwt ⟨17, .data⟩ (by simp) rfl)
      have s23 : b.tmps.getD 23 undef = .agg #[.int .i64 x'.id, .int .i64 x'.fr, .int .i64 x'.to, .int .i64 x'.lb] := (hS.i 23 (by decide)).trans hx'
      clear hx'
      have X0 := hX hLi
      have k0 := X0.cell 0
      have k1 := X0.cell 1
      have k2 := X0.cell 2
      have k3 := X0.cell 3
      have q0 := X0.frozen 0
      have q1 := X0.frozen 1
      have q2 := X0.frozen 2
      have q3 := X0.frozen 3
      have u5 := s5
      have u23 := s23
      rw [Array.getD_eq_getD_getElem?] at u5 u23
      have HX0 := Lib.hid X0
      have HF5 := Lib.hid hf5
      clear X0 hf5 hX
      go_simp
      exact HN.out _ rfl (hJ.sto hOK hLi (fun j hj => box_of (k := 18) rfl hj) (.inr rfl) HF5.out hg0 hg1 hg2 HX0.out x')
  case hend =>
    intro L f w2 hall hJ
    obtain ⟨g, hf5, hg0, hg1, hg2, _, hX⟩ := hJ.v 18 _ rfl (hall 18 (by decide))
    replace hf5 : f 5 = .pointer (some ⟨g, 0, none⟩) := hf5
    obtain ⟨x, X2⟩ := hX (hall 19 (by decide))
    have XR2 := hJ.w.xr
    have C2 := hJ.w.cr
    have T2 := hJ.w.tt
    replace hg0 : w.heap.size ≤ g := hg0
    replace hg2 : g ≠ w.heap.size + 1 := hg2
    clear hall hJ hX XG XR C1 T1 hg1 hOK
    simp only [chs, Act.put, List.setIfInBounds_toArray, List.set_cons_zero, List.set_cons_succ, hf5]
    clear hf5
    have END : RowKit.Hid (∀ (z : World) (x : E), Blk z (w.heap.size + 1) 29 zE → Cur z cb → Tch cb (cb + 1) w z → Cur ((((z.setCell ⟨w.heap.size + 1, 0, none⟩ (.int .i64 x.id)).setCell ⟨w.heap.size + 1, 1, none⟩ (.int .i64 x.fr)).setCell ⟨w.heap.size + 1, 2, none⟩ (.int .i64 x.to)).setCell ⟨w.heap.size + 1, 3, none⟩ (.int .i64 x.lb)) cb ∧ Tch cb (cb + 1) w ((((z.setCell ⟨w.heap.size + 1, 0, none⟩ (.int .i64 x.id)).setCell ⟨w.heap.size + 1, 1, none⟩ (.int .i64 x.fr)).setCell ⟨w.heap.size + 1, 2, none⟩ (.int .i64 x.to)).setCell ⟨w.heap.size + 1, 3, none⟩ (.int .i64 x.lb))) := Lib.hid (by
      intro z x X CR T
      refine ⟨CR.tch (((((Tch.refl (w.heap.size + 1) (w.heap.size + 2) z).setCell (p := ⟨w.heap.size + 1, 0, none⟩) (Nat.le_refl _) (Nat.lt_succ_self _) _).setCell (p := ⟨w.heap.size + 1, 1, none⟩) (Nat.le_refl _) (Nat.lt_succ_self _) _).setCell (p := ⟨w.heap.size + 1, 2, none⟩) (Nat.le_refl _) (Nat.lt_succ_self _) _).setCell (p := ⟨w.heap.size + 1, 3, none⟩) (Nat.le_refl _) (Nat.lt_succ_self _) _) (by omega), ?_⟩
      exact (((T.past (Nat.le_succ _) _ _).past (Nat.le_succ _) _ _).past (Nat.le_succ _) _ _).past (Nat.le_succ _) _ _)
    go_wp2_with fail
    refine (l1Below_all w2 C2 16 (by omega)).mono ?_
    rintro e w3 ⟨q, rfl, hq0, hq1, C3, t3⟩
    have X3 := X2.tch t3 (by omega)
    have XR3 := XR2.tch t3 (by omega)
    have T3 := T2.trans t3
    clear X2 XR2 T2 t3 C2
    by_cases h0 : q = 0
    · subst h0
      go_wp2_with fail
      refine (pick_lit w3 C3 [0, 99, 100] 3 rfl (by omega) (by omega)).mono ?_
      rintro e w4 ⟨y, _, rfl, C4, t4⟩
      have X4 := X3.tch t4 (by omega)
      have XR4 := XR3.tch t4 (by omega)
      have T4 := T3.trans t4
      have a0_ := X4.cell 0
      have b0_ := X4.frozen 0
      have X5 := X4.set_ 0 (.int .i64 y)
      have XR5 := XR4.far_ (Ne.symm hg2) 0 (.int .i64 y)
      have C5 := C4.tch ((Tch.refl g (g + 1) w4).setCell (p := ⟨g, 0, none⟩) (Nat.le_refl _) (Nat.lt_succ_self _) (.int .i64 y)) (by omega)
      have T5 := T4.past hg0 0 (.int .i64 y)
      have FE := Lib.hid (END.out _ ⟨y, x.fr, x.to, x.lb⟩ XR5 C5 T5)
      obtain ⟨w5, hw5⟩ : ∃ w5, w4.setCell ⟨g, 0, none⟩ (.int .i64 y) = w5 := ⟨_, rfl⟩
      rw [hw5] at X5 XR5 FE
      replace X5 : Blk w5 g 29 #[.int .i64 y, .int .i64 x.fr, .int .i64 x.to, .int .i64 x.lb] := X5
      clear X3 XR3 T3 t4 C3 X4 XR4 T4 C4 C5 T5 END
      have d0_ := X5.cell 0
      have d1_ := X5.cell 1
      have d2_ := X5.cell 2
      have d3_ := X5.cell 3
      have r0_ := XR5.cell 0
      have r1_ := XR5.cell 1
      have r2_ := XR5.cell 2
      have r3_ := XR5.cell 3
      have q0_ := XR5.frozen 0
      have q1_ := XR5.frozen 1
      have q2_ := XR5.frozen 2
      have q3_ := XR5.frozen 3
      clear X5 XR5
      go_wp2
      refine bodyPost_ret (v := .agg #[.int .i64 y, .int .i64 x.fr, .int .i64 x.to, .int .i64 x.lb]) ?_ rfl ?_
      · simp [results, Tryz.results57, go_sem]
        go_simp
      · exact ⟨⟨y, x.fr, x.to, x.lb⟩, rfl, FE.out⟩
    · by_cases h1 : q = 1
      · subst h1
        go_wp2_with fail
        refine (pick_lit w3 C3 [-1, 5] 2 rfl (by omega) (by omega)).mono ?_
        rintro e w4 ⟨y, _, rfl, C4, t4⟩
        have X4 := X3.tch t4 (by omega)
        have XR4 := XR3.tch t4 (by omega)
        have T4 := T3.trans t4
        have a0_ := X4.cell 2
        have b0_ := X4.frozen 2
        have X5 := X4.set_ 2 (.int .i64 y)
        have XR5 := XR4.far_ (Ne.symm hg2) 2 (.int .i64 y)
        have C5 := C4.tch ((Tch.refl g (g + 1) w4).setCell (p := ⟨g, 2, none⟩) (Nat.le_refl _) (Nat.lt_succ_self _) (.int .i64 y)) (by omega)
        have T5 := T4.past hg0 2 (.int .i64 y)
        have FE := Lib.hid (END.out _ ⟨x.id, x.fr, y, x.lb⟩ XR5 C5 T5)
        obtain ⟨w5, hw5⟩ : ∃ w5, w4.setCell ⟨g, 2, none⟩ (.int .i64 y) = w5 := ⟨_, rfl⟩
        rw [hw5] at X5 XR5 FE
        replace X5 : Blk w5 g 29 #[.int .i64 x.id, .int .i64 x.fr, .int .i64 y, .int .i64 x.lb] := X5
        clear X3 XR3 T3 t4 C3 X4 XR4 T4 C4 C5 T5 END
        have d0_ := X5.cell 0
        have d1_ := X5.cell 1
        have d2_ := X5.cell 2
        have d3_ := X5.cell 3
        have r0_ := XR5.cell 0
        have r1_ := XR5.cell 1
        have r2_ := XR5.cell 2
        have r3_ := XR5.cell 3
        have q0_ := XR5.frozen 0
        have q1_ := XR5.frozen 1
        have q2_ := XR5.frozen 2
        have q3_ := XR5.frozen 3
        clear X5 XR5
        go_wp2
        refine bodyPost_ret (v := .agg #[.int .i64 x.id, .int .i64 x.fr, .int .i64 y, .int .i64 x.lb]) ?_ rfl ?_
        · simp [results, Tryz.results57, go_sem]
          go_simp
        · exact ⟨⟨x.id, x.fr, y, x.lb⟩, rfl, FE.out⟩
      · by_cases h2 : q = 2
        · subst h2
          go_wp2_with fail
          refine (pick_lit w3 C3 [-1, 3] 2 rfl (by omega) (by omega)).mono ?_
          rintro e w4 ⟨y, _, rfl, C4, t4⟩
          have X4 := X3.tch t4 (by omega)
          have XR4 := XR3.tch t4 (by omega)
          have T4 := T3.trans t4
          have a0_ := X4.cell 3
          have b0_ := X4.frozen 3
          have X5 := X4.set_ 3 (.int .i64 y)
          have XR5 := XR4.far_ (Ne.symm hg2) 3 (.int .i64 y)
          have C5 := C4.tch ((Tch.refl g (g + 1) w4).setCell (p := ⟨g, 3, none⟩) (Nat.le_refl _) (Nat.lt_succ_self _) (.int .i64 y)) (by omega)
          have T5 := T4.past hg0 3 (.int .i64 y)
          have FE := Lib.hid (END.out _ ⟨x.id, x.fr, x.to, y⟩ XR5 C5 T5)
          obtain ⟨w5, hw5⟩ : ∃ w5, w4.setCell ⟨g, 3, none⟩ (.int .i64 y) = w5 := ⟨_, rfl⟩
          rw [hw5] at X5 XR5 FE
          replace X5 : Blk w5 g 29 #[.int .i64 x.id, .int .i64 x.fr, .int .i64 x.to, .int .i64 y] := X5
          clear X3 XR3 T3 t4 C3 X4 XR4 T4 C4 C5 T5 END
          have d0_ := X5.cell 0
          have d1_ := X5.cell 1
          have d2_ := X5.cell 2
          have d3_ := X5.cell 3
          have r0_ := XR5.cell 0
          have r1_ := XR5.cell 1
          have r2_ := XR5.cell 2
          have r3_ := XR5.cell 3
          have q0_ := XR5.frozen 0
          have q1_ := XR5.frozen 1
          have q2_ := XR5.frozen 2
          have q3_ := XR5.frozen 3
          clear X5 XR5
          go_wp2
          refine bodyPost_ret (v := .agg #[.int .i64 x.id, .int .i64 x.fr, .int .i64 x.to, .int .i64 y]) ?_ rfl ?_
          · simp [results, Tryz.results57, go_sem]
            go_simp
          · exact ⟨⟨x.id, x.fr, x.to, y⟩, rfl, FE.out⟩
        · have FE := Lib.hid (END.out w3 x XR3 C3 T3)
          clear END C3 T3
          have d0_ := X3.cell 0
          have d1_ := X3.cell 1
          have d2_ := X3.cell 2
          have d3_ := X3.cell 3
          have r0_ := XR3.cell 0
          have r1_ := XR3.cell 1
          have r2_ := XR3.cell 2
          have r3_ := XR3.cell 3
          have q0_ := XR3.frozen 0
          have q1_ := XR3.frozen 1
          have q2_ := XR3.frozen 2
          have q3_ := XR3.frozen 3
          clear X3 XR3
          go_wp2
          refine bodyPost_ret (v := .agg #[.int .i64 x.id, .int .i64 x.fr, .int .i64 x.to, .int .i64 x.lb]) ?_ rfl ?_
          · simp [results, Tryz.results57, go_sem]
            go_simp
          · exact ⟨x, rfl, FE.out⟩
end Go.Proofs.YtljggmgijadjaaaGreatDoor
