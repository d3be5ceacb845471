/- Texts merged by program: Draw, DrawN, RegI, RegH, RegS, DrwK. -/
import Derived.Test.YtomkgnamjfiocaaGreatDoorBaseA
import Derived.Laws.BitsLemmas
import Derived.StillTail
import Derived.Deep.RegionHeld3
namespace Go.Proofs.YtomkgnamjfiocaaGreatDoor
open Go.RowKit Go.ChangeShapes Go.WideShapes Go.ChangeAt Go.Deep
set_option linter.unusedVariables false
def byv (b : UInt8) : Value := .int .u8 b.toNat
theorem i64_and255 (n : Int) : bits .and .i64 n 255 = n % 256 := by
  have h127 : (BitVec.ofInt 64 255).toNat = 2 ^ 8 - 1 := by decide
  have key : (BitVec.ofInt 64 n &&& BitVec.ofInt 64 255).toNat = (n % ((2 ^ 64 : Nat) : Int)).toNat % 2 ^ 8 := by
    rw [BitVec.toNat_and, BitVec.toNat_ofInt, h127, Nat.and_two_pow_sub_one_eq_mod]
  show IntKind.i64.wrap ((BitVec.ofInt 64 n &&& BitVec.ofInt 64 255).toNat : Nat) = n % 256
  rw [key, IntKind.wrap_i64]
  omega
/-- A cursor over bytes that were there before it. -/
def Cur (w : World) (cb : Nat) : Prop :=
  ∃ (A : Option Addr) (n c : Nat) (i : Nat) (h : Int) (bs : List UInt8), n ≤ 1048576 ∧ i ≤ n ∧ bs.length = n ∧ Blk w cb 113 #[.slice A n c, .int .i64 i, .int .i64 h] ∧ Reads w cb 1 A n (bs.map byv)
theorem reads_tch {w w' : World} {B lo hi size n : Nat} {A : Option Addr} {xs : List Value} (h : Reads w B size A n xs) (t : Tch lo hi w w') (hB : B ≤ lo) : Reads w' B size A n xs := by
  refine ⟨h.1, fun hn => ?_⟩
  obtain ⟨ad, e, hb, hc⟩ := h.2 hn
  exact ⟨ad, e, hb, fun j u hu => cell_tch t (hc j u hu) (.inl (by rw [block_of_add]; omega))⟩
theorem Cur.below {w w' : World} {cb : Nat} (h : Cur w cb) (hb : Below w.heap.size w w') : Cur w' cb := by
  obtain ⟨A, n, c, i, hh, bs, h1, h2, h3, X, R⟩ := h
  exact ⟨A, n, c, i, hh, bs, h1, h2, h3, X.below hb X.lt, reads_tch R (Tch.of_below (lo := cb) (hi := cb) hb) (Nat.le_refl _)⟩
theorem byte_at {w : World} {B n k : Nat} {A : Option Addr} {bs : List UInt8} (h : Reads w B 1 A n (bs.map byv)) (hl : bs.length = n) (hk : k < n) :
    ∃ b o, A = some ⟨b, o, none⟩ ∧ b < B ∧ ∃ x : Int, 0 ≤ x ∧ x < 256 ∧ w.cell? ⟨b, o + k, none⟩ = some (.int .u8 x) := by
  obtain ⟨b, o, hA, hb, hc⟩ := row_at h (by omega) (by decide)
  have hx : bs[k]? = some bs[k] := List.getElem?_eq_getElem (by omega)
  have hlt := UInt8.toNat_lt bs[k]
  exact ⟨b, o, hA, hb, (bs[k].toNat : Int), by omega, by omega, hc k (byv bs[k]) (by rw [List.getElem?_map, hx]; rfl)⟩
theorem Tch.set1 {w : World} {cb : Nat} (i : Nat) (u : Value) : Tch cb (cb + 1) w (w.setCell ⟨cb, i, none⟩ u) := (Tch.refl _ _ _).setCell (p := ⟨cb, i, none⟩) (Nat.le_refl _) (Nat.lt_succ_self _) u
set_option maxRecDepth 4000 in
set_option maxHeartbeats 1000000 in
theorem l1Byte_any (w : World) {cb : Nat} (hC : Cur w cb) :
    Calls Tryz.prog 97 #[.pointer (some ⟨cb, 0, none⟩)] w fun e w' => ∃ q : Int, e = .returned (.int .i64 q) ∧ 0 ≤ q ∧ q < 256 ∧ Cur w' cb ∧ Tch cb (cb + 1) w w' := by
  obtain ⟨A, n, c, i, h, bs, hn, hi, hl, X, R⟩ := hC
  have k0 : w.cell? ⟨cb, 0, none⟩ = some (.slice A n c) := by rw [X.cell]; rfl
  have k1 : w.cell? ⟨cb, 1, none⟩ = some (.int .i64 i) := by rw [X.cell]; rfl
  have k2 : w.cell? ⟨cb, 2, none⟩ = some (.int .i64 h) := by rw [X.cell]; rfl
  have kf := X.frozen 2
  have hX := X.lt
  go_enter Tryz.func97, Tryz.ntmps97
  go_wp2_with fail
  have t1 := Tch.set1 (w := w) (cb := cb) 2 (.int .i64 (wrap64 (wrap64 (h * 6364136223846793005) + 1442695040888963407)))
  have X1 := X.set_ 2 (.int .i64 (wrap64 (wrap64 (h * 6364136223846793005) + 1442695040888963407)))
  generalize wrap64 (wrap64 (h * 6364136223846793005) + 1442695040888963407) = h1 at *
  have R1 := reads_tch R t1 (Nat.le_refl _)
  replace X1 : Blk (w.setCell ⟨cb, 2, none⟩ (.int .i64 h1)) cb 113 #[.slice A n c, .int .i64 i, .int .i64 h1] := X1
  clear k0 k1 k2 kf X R
  generalize w.setCell ⟨cb, 2, none⟩ (.int .i64 h1) = w1 at *
  have k0 := X1.kc (v := .slice A n c) 0 rfl
  have k1 := X1.kc (v := .int .i64 i) 1 rfl
  have k2 := X1.kc (v := .int .i64 h1) 2 rfl
  have kf := X1.kf 1
  refine wp_region_kept (by kernel_rfl) (by kernel_rfl) ?_
  repeat (go_big_quiet_step (fail))
  refine wpQuiet_nil ?_
  intro _ hw'
  obtain ⟨z2, rfl⟩ := hw'
  rcases Nat.lt_or_ge i n with hin | hin
  · obtain ⟨b, o, rfl, hb, x, hx0, hx1, hc⟩ := byte_at R1 hl hin
    have kx := Kept.cell hc
    have hin' : (i : Int) < n := by omega
    have hi0 : (0 : Int) ≤ (i : Int) := by omega
    have hwi : IntKind.i64.wrap ((i : Int) + 1) = (i : Int) + 1 := by rw [IntKind.wrap_i64]; omega
    clear hc
    go_wp2_with fail
    refine wp_region_k2 (by kernel_rfl) (by kernel_rfl) ?_
    repeat (go_big_quiet_step (fail))
    refine wpQuiet_nil ?_
    intro _ hw'
    obtain ⟨z3, rfl⟩ := hw'
    go_wp2_with fail
    refine wp_region_k2 (by kernel_rfl) (by kernel_rfl) ?_
    repeat (go_big_quiet_step (fail))
    refine wpQuiet_nil ?_
    intro _ hw'
    obtain ⟨z4, rfl⟩ := hw'
    have X4 := X1.below z4.be X1.lt
    have R4 := reads_tch R1 (Tch.of_below (lo := cb) (hi := cb) z4.be) (Nat.le_refl _)
    have t4 := (t1.below z4.be).trans (Tch.set1 (w := z4.W) (cb := cb) 1 (.int .i64 ((i : Int) + 1)))
    go_wp2_with fail
    go_ret
    exact ⟨_, rfl, by rw [i64_and255]; omega, by rw [i64_and255]; omega, ⟨_, n, c, i + 1, h1, bs, hn, by omega, hl, by rw [show ((i + 1 : Nat) : Int) = (i : Int) + 1 by omega]; exact X4.set_ 1 _, reads_tch R4 (Tch.set1 1 _) (Nat.le_refl _)⟩, t4⟩
  · have hin' : ¬ (i : Int) < n := by omega
    go_wp2_with fail
    refine wp_region_k2 (by kernel_rfl) (by kernel_rfl) ?_
    repeat (go_big_quiet_step (fail))
    refine wpQuiet_nil ?_
    intro _ hw'
    obtain ⟨z4, rfl⟩ := hw'
    have X4 := X1.below z4.be X1.lt
    have R4 := reads_tch R1 (Tch.of_below (lo := cb) (hi := cb) z4.be) (Nat.le_refl _)
    have t4 := t1.below z4.be
    go_wp2
    go_ret
    exact ⟨_, rfl, by rw [i64_and255]; omega, by rw [i64_and255]; omega, ⟨_, n, c, i, h1, bs, hn, hi, hl, X4, R4⟩, t4⟩
set_option maxRecDepth 4000 in
set_option maxHeartbeats 1000000 in
theorem l1Below_any (w : World) {cb : Nat} (hC : Cur w cb) (n : Int) (h0 : 0 < n) (h1 : n ≤ 256) :
    Calls Tryz.prog 49 #[.pointer (some ⟨cb, 0, none⟩), .int .i64 n] w fun e w' => ∃ q : Int, e = .returned (.int .i64 q) ∧ 0 ≤ q ∧ q < n ∧ Cur w' cb ∧ Tch cb (cb + 1) w w' := by
  have hn0 : ¬ n ≤ 0 := by omega
  have hne : ¬ n = 0 := by omega
  go_enter Tryz.func49, Tryz.ntmps49
  go_wp2_with fail
  refine (l1Byte_any w hC).mono ?_
  rintro e w1 ⟨q, rfl, hq0, hq1, C1, t1⟩
  have hm0 : 0 ≤ q % n := Int.emod_nonneg _ hne
  have hm1 : q % n < n := Int.emod_lt_of_pos _ h0
  go_wp2
  go_ret
  exact ⟨_, rfl, hm0, hm1, C1, t1⟩
set_option maxRecDepth 4000 in
set_option maxHeartbeats 1000000 in
theorem l1Once_any (w : World) {cb : Nat} (hC : Cur w cb) (n : Int) (h0 : 0 < n) (h1 : n ≤ 256) :
    Calls Tryz.prog 75 #[.pointer (some ⟨cb, 0, none⟩), .int .i64 n] w fun e w' => ∃ q : Bool, e = .returned (.bool q) ∧ Cur w' cb ∧ Tch cb (cb + 1) w w' := by
  go_enter Tryz.func75, Tryz.ntmps75
  go_wp2_with fail
  refine (l1Below_any w hC n h0 h1).mono ?_
  rintro e w1 ⟨q, rfl, hq0, hq1, C1, t1⟩
  go_wp2
  go_ret
  exact ⟨_, rfl, C1, t1⟩
set_option maxRecDepth 4000 in
set_option maxHeartbeats 1000000 in
theorem l1PickInt_any (w : World) {cb : Nat} (hC : Cur w cb) {g n c : Nat} {xs : List Int} (hl : xs.length = n) (h0 : 0 < n) (h1 : n ≤ 256) (hc : ∀ j x, xs[j]? = some x → w.cell? ⟨g, j, none⟩ = some (.int .i64 x)) (hne : g ≠ cb) :
    Calls Tryz.prog 105 #[.pointer (some ⟨cb, 0, none⟩), .slice (some ⟨g, 0, none⟩) n c] w fun e w' => ∃ x ∈ xs, e = .returned (.int .i64 x) ∧ Cur w' cb ∧ Tch cb (cb + 1) w w' := by
  go_enter Tryz.func105, Tryz.ntmps105
  go_wp2_with fail
  refine (l1Below_any w hC n (by omega) (by omega)).mono ?_
  rintro e w1 ⟨q, rfl, hq0, hq1, C1, t1⟩
  obtain ⟨k, rfl⟩ : ∃ k : Nat, q = (k : Int) := ⟨q.toNat, by omega⟩
  have hk : k < xs.length := by omega
  have hx : xs[k]? = some xs[k] := List.getElem?_eq_getElem hk
  have hcell := cell_tch t1 (hc k _ hx) (by dsimp only; omega)
  obtain ⟨x, hxe⟩ : ∃ x, xs[k] = x := ⟨_, rfl⟩
  rw [hxe] at hcell hx
  have HM := Lib.hid (List.mem_of_getElem? hx)
  clear hxe hx
  go_wp2
  go_ret
  exact ⟨_, HM.out, rfl, C1, t1⟩
end Go.Proofs.YtomkgnamjfiocaaGreatDoor
namespace Go.Proofs.YtomkgnamjfiocaaGreatDoor
open Go.RowKit Go.ChangeShapes Go.WideShapes Go.ChangeAt Go.Deep
set_option linter.unusedVariables false
set_option maxRecDepth 8000 in
set_option maxHeartbeats 1000000 in
theorem l1New_any (w : World) {A : Option Addr} {n c : Nat} {bs : List UInt8} (hl : bs.length = n) (hr : Reads w w.heap.size 1 A n (bs.map byv)) (hn : n ≤ 1048576) :
    Calls Tryz.prog 39 #[.slice A n c] w fun e w' => ∃ cb, e = .returned (.pointer (some ⟨cb, 0, none⟩)) ∧ w.heap.size ≤ cb ∧ Cur w' cb ∧ Below w.heap.size w w' := by
  go_enter Tryz.func39, Tryz.ntmps39
  go_wp2
  go_loopw [3, 4] (fun h i wr => wr = w ∧ ∃ (z : Int) (k : Nat), h = .int .i64 z ∧ i = .int .i64 k ∧ k ≤ n) (fun _ i _ => n - (intOf i).toNat)
  case atStart => exact ⟨rfl, _, 0, rfl, rfl, Nat.zero_le _⟩
  case round =>
    obtain ⟨rfl, z, k, rfl, rfl, hk⟩ := hrel
    have hb : Below wr.heap.size wr (wr.alloc (.cells #[.slice A n c, .int .i64 0, .int .i64 z] 113)) := (Below.refl _ _).alloc (Nat.le_refl _) _
    have X := Blk.new wr 113 #[.slice A n c, .int .i64 0, .int .i64 z]
    have R := reads_up hr hb
    have C : Cur (wr.alloc (.cells #[.slice A n c, .int .i64 0, .int .i64 z] 113)) wr.heap.size := ⟨A, n, c, 0, z, bs, hn, Nat.zero_le _, hl, X, by
      refine ⟨hr.1, fun h0 => ?_⟩
      obtain ⟨ad, e1, e2, e3⟩ := hr.2 h0
      exact ⟨ad, e1, e2, fun j u hu => cell_keep hb (e3 j u hu)⟩⟩
    clear X R
    by_cases hlt : k < n
    · have hlt' : (k : Int) < n := by omega
      have hd : decide ((k : Int) < n) = true := by simpa using hlt'
      by_cases h4 : (k : Int) < 4000
      · have hd4 : decide ((k : Int) < 4000) = true := by simpa using h4
        obtain ⟨b, o, rfl, hbb, x, hx0, hx1, hc⟩ := byte_at hr hl hlt
        have hk0 : (0 : Int) ≤ (k : Int) := by omega
        clear hb C
        go_wp2
        go_roundw
        case rel => exact ⟨trivial, _, k + 1, rfl, by go_num, by omega⟩
        case measure => simp [intOf]; omega
      · have hd4 : decide ((k : Int) < 4000) = false := by simpa using h4
        go_wp2
        go_ret
        exact ⟨_, rfl, Nat.le_refl _, C, hb⟩
    · have hlt' : ¬ (k : Int) < n := by omega
      have hd : decide ((k : Int) < n) = false := by simpa using hlt'
      go_wp2
      go_ret
      exact ⟨_, rfl, Nat.le_refl _, C, hb⟩
def hasI (l : List Int) (k : Nat) (x : Int) : Bool := (l.take k).any (· == x)
theorem hasI_succ {l : List Int} {k : Nat} {x y : Int} (h : l[k]? = some y) : hasI l (k + 1) x = (hasI l k x || (y == x)) := by
  obtain ⟨hk, rfl⟩ := List.getElem?_eq_some_iff.1 h
  unfold hasI
  rw [List.take_succ_eq_append_getElem hk, List.any_append]
  simp
theorem hasI_full {l : List Int} {x : Int} {k : Nat} (h : hasI l k x = true) : l.any (· == x) = true := by
  unfold hasI at h
  rw [List.any_eq_true] at h ⊢
  obtain ⟨y, hy, he⟩ := h
  exact ⟨y, List.mem_of_mem_take hy, he⟩
end Go.Proofs.YtomkgnamjfiocaaGreatDoor
namespace Go.Proofs.YtomkgnamjfiocaaGreatDoor
open Go.RowKit Go.ChangeShapes Go.WideShapes Go.ChangeAt Go.Deep
set_option linter.unusedVariables false
section
variable {P : Program} {md : Region.Mode} {ops : Array Oper} {Q : Exit → Act → World → Prop} {I : Array Bool → Act → World → Prop}
theorem unlisted {listed : Array Bool} {i : Nat} (h : listed.getD i true = false) : ∃ hi : i < listed.toList.length, listed.toList[i] = false := by
  rcases Nat.lt_or_ge i listed.size with h' | h'
  · exact ⟨by simpa using h', by simpa [h'] using h⟩
  · simp [Array.getElem?_eq_none h'] at h
theorem count_zero {listed : Array Bool} (hc : listed.toList.countP (fun b => !b) = 0) : Region.ready md ops listed = [] := by
  cases hr : Region.ready md ops listed with
  | nil => rfl
  | cons i r =>
    have hi : i ∈ Region.ready md ops listed := by rw [hr]; exact List.mem_cons_self
    obtain ⟨hlt, he⟩ := unlisted (mem_ready.1 hi).1
    have := List.countP_eq_zero.1 hc _ (List.getElem_mem hlt)
    rw [he] at this
    simp at this
theorem count_set {listed : Array Bool} {i : Nat} (h : listed.getD i true = false) : (listed.setIfInBounds i true).toList.countP (fun b => !b) + 1 = listed.toList.countP (fun b => !b) := by
  obtain ⟨hlt, he⟩ := unlisted h
  have hpos : 0 < listed.toList.countP (fun b => !b) := List.countP_pos_iff.2 ⟨_, List.getElem_mem hlt, by rw [he]; rfl⟩
  rw [Array.toList_setIfInBounds, List.countP_set hlt, he]
  rw [if_pos (by decide), if_neg (by decide)]
  omega
theorem wpAny_inv (hstep : ∀ i listed a w, i ∈ Region.ready md ops listed → I listed a w → wpOp P ops Q i (fun a' w' => I (listed.setIfInBounds i true) a' w') a w)
    (hend : ∀ listed a w, Region.ready md ops listed = [] → I listed a w → Q .normal a w) :
    ∀ (fuel : Nat) (listed : Array Bool) (a : Act) (w : World), listed.toList.countP (fun b => !b) ≤ fuel → I listed a w → wpAny P md ops Q fuel listed a w
  | 0, listed, a, w, hc, h => by
    have hr := count_zero (md := md) (ops := ops) (show listed.toList.countP (fun b => !b) = 0 by omega)
    exact ⟨hr, hend _ _ _ hr h⟩
  | fuel + 1, listed, a, w, hc, h => ⟨fun hr => hend _ _ _ hr h, fun i hi => wpOp_mono (fun a' w' h' => wpAny_inv hstep hend fuel _ a' w' (by have := count_set (mem_ready.1 hi).1; omega) h') (hstep i _ a w hi h)⟩
def backB (md : Region.Mode) (ops : Array Oper) : Bool :=
  (List.range ops.size).all fun i => match ops[i]? with
    | some o => o.after.all fun e => !Region.binds md e || decide (e.on < i)
    | none => true
theorem ready_nil_all {listed : Array Bool} (hd : backB md ops = true) (hs : listed.size = ops.size) (h : Region.ready md ops listed = []) : ∀ i, i < ops.size → listed.getD i false = true := by
  intro i
  induction i using Nat.strongRecOn with
  | _ i ih =>
    intro hi
    cases hl : listed.getD i false with
    | true => rfl
    | false =>
      have h1 := List.all_eq_true.1 hd i (List.mem_range.2 hi)
      have ho : ops[i]? = some ops[i] := Array.getElem?_eq_getElem hi
      rw [ho] at h1
      dsimp only at h1
      have hm : i ∈ Region.ready md ops listed := mem_ready.2 ⟨getD_in (by omega) hl, ops[i], ho, fun e he hb => by
        have h2 := Array.all_eq_true_iff_forall_mem.1 h1 e he
        rw [hb] at h2
        have h3 : e.on < i := by simpa using h2
        exact ih e.on h3 (by omega)⟩
      rw [h] at hm
      cases hm
/-- The rule: I at the start; kept by each operation wherever it may come up; at the end all has come up. -/
theorem wp_region_inv {id : Nat} {a : Act} {w : World} (hm : P.follows .mixedOrders = true) (hd : backB .any ops = true)
    (h0 : I (Array.replicate ops.size false) a w.drew)
    (hstep : ∀ i listed a w, listed.size = ops.size → i ∈ Region.ready .any ops listed → I listed a w → wpOp P ops Q i (fun a' w' => I (listed.setIfInBounds i true) a' w') a w)
    (hend : ∀ listed a w, (∀ i, i < ops.size → listed.getD i false = true) → I listed a w → Q .normal a w) : (Code.region id ops true).wp P Q a w := by
  refine wp_region_any hm (wpAny_inv (I := fun listed a w => listed.size = ops.size ∧ I listed a w) (fun i listed a w hi h => ?_) (fun listed a w hr h => hend _ _ _ (ready_nil_all hd h.1 hr) h.2) _ _ _ _ ?_ ⟨by simp, h0⟩)
  · exact wpOp_mono (fun a' w' h' => ⟨by simpa using h.1, h'⟩) (hstep i listed a w h.1 hi h.2)
  · rw [Array.toList_replicate, List.countP_replicate]
    simp
end
end Go.Proofs.YtomkgnamjfiocaaGreatDoor
namespace Go.Proofs.YtomkgnamjfiocaaGreatDoor
open Go.RowKit Go.ChangeShapes Go.WideShapes Go.ChangeAt Go.Deep
set_option linter.unusedVariables false
section
variable {P : Program} {ops : Array Oper} {Q : Exit → Act → World → Prop}
theorem getD_upd {listed : Array Bool} {i : Nat} (hi : i < listed.size) : (fun k => (listed.setIfInBounds i true).getD k false) = fun k => decide (k = i) || listed.getD k false := by
  funext k
  by_cases hk : k = i
  · subst hk
    simp [hi]
  · rw [getD_set_ne false (fun e => hk e.symm)]
    simp [hk]
/-- What an operation waits for has come up. -/
def Waited (o : Oper) (L : Nat → Bool) : Prop := ∀ e ∈ o.after, Region.binds .any e = true → L e.on = true
def Closed (ops : Array Oper) (L : Nat → Bool) : Prop := ∀ i o, ops[i]? = some o → L i = true → Waited o L
theorem Waited.more {o : Oper} {L : Nat → Bool} {i : Nat} (h : Waited o L) : Waited o (fun k => decide (k = i) || L k) := fun e he hb => by
  have := h e he hb
  simp [this]
theorem wp_region_cl {id : Nat} {a : Act} {w : World} (ch : (Nat → Value) → Act) (J : (Nat → Bool) → (Nat → Value) → World → Prop) (hm : P.follows .mixedOrders = true) (hd : backB .any ops = true) (f0 : Nat → Value) (ha : a = ch f0)
    (h0 : J (fun _ => false) f0 w.drew)
    (hstep : ∀ i (L : Nat → Bool) f w' o, ops[i]? = some o → L i = false → Waited o L → Closed ops L → J L f w' →
      wpOp P ops Q i (fun a'' w'' => ∃ f', a'' = ch f' ∧ J (fun k => decide (k = i) || L k) f' w'') (ch f) w')
    (hend : ∀ L f w', (∀ i, i < ops.size → L i = true) → J L f w' → Q .normal (ch f) w') : (Code.region id ops true).wp P Q a w := by
  refine wp_region_inv (I := fun listed a' w' => Closed ops (fun k => listed.getD k false) ∧ ∃ f, a' = ch f ∧ J (fun k => listed.getD k false) f w') hm hd ⟨?_, f0, ha, ?_⟩ ?_ ?_
  · intro i o _ hl
    dsimp only at hl
    rw [getD_replicate_false] at hl
    cases hl
  · have : (fun k => (Array.replicate ops.size false).getD k false) = fun _ => false := by
      funext k
      exact getD_replicate_false _ _
    rw [this]
    exact h0
  · rintro i listed a' w' hs hi ⟨hcl, f, rfl, hJ⟩
    obtain ⟨hl, o, ho, hdep⟩ := mem_ready.1 hi
    have hlt : i < ops.size := (Array.getElem?_eq_some_iff.1 ho).1
    have h1 := hstep i (fun k => listed.getD k false) f w' o ho (getD_both hl) hdep hcl hJ
    rw [getD_upd (by omega)]
    refine wpOp_mono (fun a'' w'' h => ⟨?_, h⟩) h1
    intro j o' ho' hj
    by_cases hji : j = i
    · subst hji
      obtain rfl : o' = o := Option.some.inj (ho'.symm.trans ho)
      exact Waited.more hdep
    · refine Waited.more (hcl j o' ho' ?_)
      simpa [hji] using hj
  · rintro listed a' w' hall ⟨_, f, rfl, hJ⟩
    exact hend _ f w' hall hJ
end
/-- The value of one slot anew. -/
def upd (f : Nat → Value) (d : Nat) (v : Value) : Nat → Value := fun n => if n = d then v else f n
theorem upd_same (f : Nat → Value) (d : Nat) (v : Value) : upd f d v d = v := if_pos rfl
theorem upd_ne (f : Nat → Value) {d n : Nat} (v : Value) (h : n ≠ d) : upd f d v n = f n := if_neg h
end Go.Proofs.YtomkgnamjfiocaaGreatDoor
namespace Go.Proofs.YtomkgnamjfiocaaGreatDoor
open Go.RowKit Go.ChangeShapes Go.WideShapes Go.ChangeAt Go.Deep
set_option linter.unusedVariables false
theorem put_same (a : Act) (k : Nat) : a.put (some k) (a.tmps.getD k undef) = a := by
  unfold Act.put
  have : a.tmps.setIfInBounds k (a.tmps.getD k undef) = a.tmps := by
    apply Array.ext
    · simp
    · intro i h1 h2
      rw [Array.getElem_setIfInBounds (by simpa using h1)]
      split
      · rename_i h
        subst h
        simp [h2]
      · rfl
  simp only [this]
def chs : List Nat → Act → (Nat → Value) → Act
  | [], a, f => a
  | k :: ks, a, f => chs ks (a.put (some k) (f k)) f
theorem chs_id (a : Act) : ∀ ks : List Nat, chs ks a (fun n => a.tmps.getD n undef) = a
  | [] => rfl
  | k :: ks => by
    unfold chs
    dsimp only
    rw [put_same]
    exact chs_id a ks
theorem put_out (a : Act) {k d : Nat} (v : Value) (h : d ≠ k) : (a.put (some k) v).tmps.getD d undef = a.tmps.getD d undef := by
  unfold Act.put
  simp only [Array.getD_eq_getD_getElem?]
  rw [Array.getElem?_setIfInBounds_ne (Ne.symm h)]
theorem put_in (a : Act) {k : Nat} (v : Value) (h : k < a.tmps.size) : (a.put (some k) v).tmps.getD k undef = v := by
  unfold Act.put
  simp only [Array.getD_eq_getD_getElem?]
  rw [Array.getElem?_setIfInBounds_self_of_lt h]
  rfl
theorem put_size (a : Act) (k : Nat) (v : Value) : (a.put (some k) v).tmps.size = a.tmps.size := by simp [Act.put]
theorem put_put (a : Act) (k : Nat) (u v : Value) : (a.put (some k) u).put (some k) v = a.put (some k) v := by simp [Act.put]
theorem put_comm (a : Act) {k d : Nat} (u v : Value) (h : d ≠ k) : (a.put (some k) u).put (some d) v = (a.put (some d) v).put (some k) u := by
  simp only [Act.put]
  rw [Array.setIfInBounds_comm u v (Ne.symm h)]
theorem chs_out (f : Nat → Value) {d : Nat} : ∀ (ks : List Nat) (a : Act), d ∉ ks → (chs ks a f).tmps.getD d undef = a.tmps.getD d undef
  | [], a, _ => rfl
  | k :: ks, a, h => by
    unfold chs
    rw [chs_out f ks _ (fun hm => h (List.mem_cons_of_mem _ hm)), put_out]
    rintro rfl
    exact h (by simp)
theorem chs_in (f : Nat → Value) {d : Nat} : ∀ (ks : List Nat) (a : Act), ks.Nodup → d ∈ ks → d < a.tmps.size → (chs ks a f).tmps.getD d undef = f d
  | k :: ks, a, hn, hm, hs => by
    unfold chs
    rw [List.nodup_cons] at hn
    rcases List.mem_cons.1 hm with rfl | hm
    · rw [chs_out f ks _ hn.1, put_in _ _ hs]
    · exact chs_in f ks _ hn.2 hm (by rw [put_size]; exact hs)
theorem chs_comm (f : Nat → Value) {d : Nat} (v : Value) : ∀ (ks : List Nat) (a : Act), d ∉ ks → (chs ks a f).put (some d) v = chs ks (a.put (some d) v) f
  | [], a, _ => rfl
  | k :: ks, a, h => by
    unfold chs
    rw [chs_comm f v ks _ (fun hm => h (List.mem_cons_of_mem _ hm)), put_comm]
    rintro rfl
    exact h (by simp)
theorem chs_congr {f g : Nat → Value} : ∀ (ks : List Nat) (a : Act), (∀ d ∈ ks, f d = g d) → chs ks a f = chs ks a g
  | [], a, _ => rfl
  | k :: ks, a, h => by
    unfold chs
    rw [h k (by simp), chs_congr ks _ fun d hd => h d (List.mem_cons_of_mem _ hd)]
theorem chs_put (f : Nat → Value) {d : Nat} (v : Value) : ∀ (ks : List Nat) (a : Act), ks.Nodup → d ∈ ks → (chs ks a f).put (some d) v = chs ks a (upd f d v)
  | k :: ks, a, hn, hm => by
    unfold chs
    rw [List.nodup_cons] at hn
    by_cases hdk : d = k
    · subst hdk
      rw [chs_comm f v ks _ hn.1, put_put, upd_same]
      refine chs_congr ks _ fun j hj => (upd_ne f v ?_).symm
      rintro rfl
      exact hn.1 hj
    · have hm2 : d ∈ ks := by
        rcases List.mem_cons.1 hm with h | h
        · exact absurd h hdk
        · exact h
      rw [chs_put f v ks _ hn.2 hm2, upd_ne f v (Ne.symm hdk)]
section
variable {P : Program} {ops : Array Oper} {Q : Exit → Act → World → Prop}
/-- What the frame's slots hold. -/
structure Sees (ks : List Nat) (a b : Act) (f : Nat → Value) : Prop where
  i : ∀ d, d ∈ ks → b.tmps.getD d undef = f d
  o : ∀ d, d ∉ ks → b.tmps.getD d undef = a.tmps.getD d undef
theorem wp_region_sl {id : Nat} {a : Act} {w : World} (ks : List Nat) (J : (Nat → Bool) → (Nat → Value) → World → Prop) (hm : P.follows .mixedOrders = true) (hd : backB .any ops = true) (hn : ks.Nodup) (hsz : ∀ d, d ∈ ks → d < a.tmps.size)
    (hdst : (ops.all fun o => match o.dst with | some d => ks.contains d | none => true) = true)
    (h0 : J (fun _ => false) (fun n => a.tmps.getD n undef) w.drew)
    (hstep : ∀ i (L : Nat → Bool) f w' o (b : Act) (K : Act → World → Prop), ops[i]? = some o → L i = false → Waited o L → Closed ops L → J L f w' → Sees ks a b f →
      RowKit.Hid (∀ d v w'', o.dst = some d → J (fun k => decide (k = i) || L k) (upd f d v) w'' → K (b.put (some d) v) w'') →
      RowKit.Hid (∀ w'', o.dst = none → J (fun k => decide (k = i) || L k) f w'' → K b w'') →
      if Region.wanted o (yielded ops b.tmps) = true then Oper.wp P o b w' K Q else K (b.put o.dst undef) w')
    (hend : ∀ L f w', (∀ i, i < ops.size → L i = true) → J L f w' → Q .normal (chs ks a f) w') : (Code.region id ops true).wp P Q a w := by
  refine wp_region_cl (chs ks a) J hm hd (fun n => a.tmps.getD n undef) (chs_id a ks).symm h0 ?_ hend
  intro i L f w' o ho hL hwt hcl hJ
  refine wpOp_step ho (fun K hK => hstep i L f w' o (chs ks a f) K ho hL hwt hcl hJ ⟨fun d hd => chs_in f ks a hn hd (hsz d hd), fun d hd => chs_out f ks a hd⟩ (Lib.hid fun d v w'' hdo hj => ?_) (Lib.hid fun w'' _ hj => hK _ _ ⟨f, rfl, hj⟩))
  refine hK _ _ ⟨upd f d v, ?_, hj⟩
  refine chs_put f v ks a hn ?_
  have h1 := Array.all_eq_true_iff_forall_mem.1 hdst o (Array.mem_of_getElem? ho)
  rw [hdo] at h1
  simpa using h1
end
end Go.Proofs.YtomkgnamjfiocaaGreatDoor
namespace Go.Proofs.YtomkgnamjfiocaaGreatDoor
open Go.RowKit Go.ChangeShapes Go.WideShapes Go.ChangeAt Go.Deep
set_option linter.unusedVariables false
theorem own_snoc_i {w : World} {base n : Nat} {e : TypeId} {v x : Value} {L : List Int} (y : Int) (hx : x = iv y) (h : w.ownsRow base e 1 v (n + 1) (L.map iv ++ x.cells.toList)) : w.ownsRow base e 1 v (n + 1) ((L ++ [y]).map iv) := by
  subst hx
  rw [List.map_append]
  exact h
theorem Cur.lt {w : World} {cb : Nat} (h : Cur w cb) : cb < w.heap.size := by
  obtain ⟨A, n, c, i, hh, bs, h1, h2, h3, X, R⟩ := h
  exact X.lt
theorem own_tch {w w' : World} {base cb : Nat} {e : TypeId} {size n : Nat} {v : Value} {xs : List Value} (h : w.ownsRow base e size v n xs) (t : Tch cb (cb + 1) w w') (hb : cb < base) : w'.ownsRow base e size v n xs :=
  own_same h fun g hg => t.block g (ownBlock_some h hg).2 (by have := (ownBlock_some h hg).1; omega)
theorem Cur.tch {w w' : World} {cb lo hi : Nat} (h : Cur w cb) (t : Tch lo hi w w') (hlo : cb < lo) : Cur w' cb := by
  obtain ⟨A, n, c, i, hh, bs, h1, h2, h3, X, R⟩ := h
  exact ⟨A, n, c, i, hh, bs, h1, h2, h3, X.tch t (by omega), reads_tch R (t.wide (b := max hi (cb + 1)) (a := cb) (by omega) (by omega)) (Nat.le_refl _)⟩
theorem Cur.grown {w w' : World} {cb base n size : Nat} {e : TypeId} {v : Value} {xs : List Value} (h : Cur w cb) (hown : w.ownsRow base e size v n xs) (hb : cb < base) (hg : w.grownBy w' v.ownBlock) : Cur w' cb := by
  exact h.tch ((Tch.refl (cb + 1) w.heap.size w).grown2 hg (fun g hg' => .inl (by have := ownBlock_some hown hg'; omega))) (Nat.lt_succ_self _)
theorem Blk.far_ {w : World} {g h : Nat} {t : TypeId} {cs : Array Value} (X : Blk w g t cs) (hne : g ≠ h) (i : Nat) (u : Value) : Blk (w.setCell ⟨h, i, none⟩ u) g t cs :=
  X.tch ((Tch.refl h (h + 1) w).setCell (p := ⟨h, i, none⟩) (Nat.le_refl _) (Nat.lt_succ_self _) u) (by omega)
/-- A call's frame, where a block that was made after the start is written: it does not show. -/
theorem Tch.past {w w' : World} {cb g : Nat} (t : Tch cb (cb + 1) w w') (hg : w.heap.size ≤ g) (i : Nat) (u : Value) : Tch cb (cb + 1) w (w'.setCell ⟨g, i, none⟩ u) :=
  ⟨t.os, t.tape, t.output, by rw [World.size_setCell]; exact t.size, fun k hk hd => (Below.heap_setCell w' ⟨g, i, none⟩ u k (by dsimp only; omega)).trans (t.block k hk hd)⟩
/-- The cells of a literal of ints. -/
theorem lit_cells {w : World} {g : Nat} {t : TypeId} {xs : List Int} (X : Blk w g t (xs.map iv).toArray) : ∀ j x, xs[j]? = some x → w.cell? ⟨g, j, none⟩ = some (.int .i64 x) := fun j x hx => by
  rw [X.cell, List.getElem?_toArray, List.getElem?_map, hx]
  rfl
set_option maxRecDepth 4000 in
set_option maxHeartbeats 2000000 in
theorem l1Below_all (w : World) {cb : Nat} (hC : Cur w cb) (n : Int) (h0 : 0 < n) :
    Calls Tryz.prog 49 #[.pointer (some ⟨cb, 0, none⟩), .int .i64 n] w fun e w' => ∃ q : Int, e = .returned (.int .i64 q) ∧ 0 ≤ q ∧ q < n ∧ Cur w' cb ∧ Tch cb (cb + 1) w w' := by
  by_cases h1 : n ≤ 256
  · exact l1Below_any w hC n h0 h1
  · have hn0 : ¬ n ≤ 0 := by omega
    have hne : ¬ n = 0 := by omega
    go_enter Tryz.func49, Tryz.ntmps49
    go_wp2_with fail
    refine (l1Byte_any w hC).mono ?_
    rintro e w1 ⟨x, rfl, hx0, hx1, C1, t1⟩
    go_wp2_with fail
    refine (l1Byte_any w1 C1).mono ?_
    rintro e w2 ⟨y, rfl, hy0, hy1, C2, t2⟩
    go_wp2_with fail
    refine (l1Byte_any w2 C2).mono ?_
    rintro e w3 ⟨z, rfl, hz0, hz1, C3, t3⟩
    go_wp2_with fail
    refine (l1Byte_any w3 C3).mono ?_
    rintro e w4 ⟨v, rfl, hv0, hv1, C4, t4⟩
    have T := ((t1.trans t2).trans t3).trans t4
    have a1 : IntKind.i64.wrap (x * 16777216) = x * 16777216 := IntWalk.i64_in _ (by omega)
    have a2 : IntKind.i64.wrap (y * 65536) = y * 65536 := IntWalk.i64_in _ (by omega)
    have a3 : IntKind.i64.wrap (z * 256) = z * 256 := IntWalk.i64_in _ (by omega)
    have a4 : IntKind.i64.wrap (x * 16777216 + y * 65536) = x * 16777216 + y * 65536 := IntWalk.i64_in _ (by omega)
    have a5 : IntKind.i64.wrap (x * 16777216 + y * 65536 + z * 256) = x * 16777216 + y * 65536 + z * 256 := IntWalk.i64_in _ (by omega)
    have a6 : IntKind.i64.wrap (x * 16777216 + y * 65536 + z * 256 + v) = x * 16777216 + y * 65536 + z * 256 + v := IntWalk.i64_in _ (by omega)
    have hs0 : 0 ≤ x * 16777216 + y * 65536 + z * 256 + v := by omega
    have hm0 : 0 ≤ (x * 16777216 + y * 65536 + z * 256 + v) % n := Int.emod_nonneg _ hne
    have hm1 : (x * 16777216 + y * 65536 + z * 256 + v) % n < n := Int.emod_lt_of_pos _ h0
    clear t1 t2 t3 t4 C1 C2 C3
    go_wp2
    go_ret
    exact ⟨_, rfl, hm0, hm1, C4, T⟩
/-- A pick out of a literal that was laid for it. -/
theorem pick_lit (w : World) {cb : Nat} (hC : Cur w cb) (xs : List Int) (n : Nat) (hl : xs.length = n) (h0 : 0 < n) (h1 : n ≤ 256) :
    Calls Tryz.prog 105 #[.pointer (some ⟨cb, 0, none⟩), .slice (some ⟨w.heap.size, 0, none⟩) n n] (w.alloc (.cells (xs.map iv).toArray 3)) fun e w' => ∃ x ∈ xs, e = .returned (.int .i64 x) ∧ Cur w' cb ∧ Tch cb (cb + 1) w w' := by
  have bL : Below w.heap.size w (w.alloc (.cells (xs.map iv).toArray 3)) := (Below.refl _ _).alloc (Nat.le_refl _) _
  have hcb := hC.lt
  refine (l1PickInt_any _ (hC.below bL) hl h0 h1 (lit_cells (Blk.new w 3 _)) (by omega)).mono ?_
  rintro e w2 ⟨x, hx, rfl, C2, t2⟩
  exact ⟨x, hx, rfl, C2, (Tch.of_below bL).trans t2⟩
theorem wf_of {q : Int} (h0 : -9223372036854775808 ≤ q) (h1 : q ≤ 9223372036854775807) : (Lit.int .i64 q).wf = true := by
  have h2 : IntKind.i64.min = -9223372036854775808 := by decide
  have h3 : IntKind.i64.max = 9223372036854775807 := by decide
  simp only [Lit.wf, Bool.and_eq_true, decide_eq_true_eq]
  rw [h2, h3]
  exact ⟨h0, h1⟩
/-- What a draw is told of its bytes. -/
structure CRaw (w : World) (A : Option Addr) (n : Nat) : Prop where
  ex : ∃ bs : List UInt8, bs.length = n ∧ Reads w w.heap.size 1 A n (bs.map byv)
  bd : n ≤ 1048576
theorem CRaw.up {W w : World} {A : Option Addr} {n : Nat} (h : CRaw W A n) (hb : Below W.heap.size W w) : CRaw w A n := by
  obtain ⟨⟨bs, h1, h2⟩, h3⟩ := h
  exact ⟨⟨bs, h1, reads_up h2 hb⟩, h3⟩
theorem new_cur (w : World) {A : Option Addr} {n c : Nat} (h : CRaw w A n) : Calls Tryz.prog 39 #[.slice A n c] w fun e w' => ∃ cb, e = .returned (.pointer (some ⟨cb, 0, none⟩)) ∧ w.heap.size ≤ cb ∧ Cur w' cb ∧ Below w.heap.size w w' := by
  obtain ⟨⟨bs, h1, h2⟩, h3⟩ := h
  exact l1New_any w h1 h2 h3
end Go.Proofs.YtomkgnamjfiocaaGreatDoor
