/- A part of the proof of FnMShow: functions of the program, the reference and the law, each with what its call comes to. Conditions: those that each theorem names. -/
import Derived.Test.YtfpdkeolecmepaaMMShow0
import Derived.Test.YtfpdkeolecmepaaMMShow1
set_option linter.unusedVariables false
set_option linter.unusedSimpArgs false
section
namespace Go.Proofs.Ytfpdkeolecmepaa.Q
open Go.RowKit Go.Proofs.YtfpdkeolecmepaaW.PrintWords Go.Proofs.YtfpdkeolecmepaaW.PrintLast Go.Proofs.YtfpdkeolecmepaaW.PrintMore
attribute [local go_sem] max2_int min2_int max_two min_two max_three min_three max_four min_four   -- for this text's walks alone
set_option linter.unusedVariables false
set_option linter.unusedSimpArgs false
mutual
def spec_l1Table.l0 : Nat → List ByteArray → List ByteArray → List (List Int) → Int → Option ((List (List Int)))
 | 0, _, _, _, _ => none
 | k + 1, x0, x1, x5, x6 => if x6 ≤ (x0.length : Int) then (if 0 ≤ (wrap64 ((x1.length : Int) + 1)) then (if (wrap64 ((x1.length : Int) + 1) : Int).toNat ≤ 35184372088832 then (if x5.length < 5864062014805 then (spec_l1Table.l0 k x0 x1 (x5 ++ [(List.replicate (wrap64 ((x1.length : Int) + 1) : Int).toNat 0)]) (wrap64 (x6 + 1))) else (none)) else (none)) else (none)) else (spec_l1Table.l1 k x0 x1 x5 (wrap64 ((x0.length : Int) - 1)))
def spec_l1Table.l1 : Nat → List ByteArray → List ByteArray → List (List Int) → Int → Option ((List (List Int)))
 | 0, _, _, _, _ => none
 | k + 1, x0, x1, x5, x7 => if x7 ≥ 0 then (spec_l1Table.l2 k x0 x1 x5 x7 (wrap64 ((x1.length : Int) - 1))) else (some x5)
def spec_l1Table.l2 : Nat → List ByteArray → List ByteArray → List (List Int) → Int → Int → Option ((List (List Int)))
 | 0, _, _, _, _, _ => none
 | k + 1, x0, x1, x5, x7, x8 => if x8 ≥ 0 then (if 0 ≤ x7 then (if x7 < (x0.length : Int) then (if 0 ≤ x8 then (if x8 < (x1.length : Int) then (if (rdOf ByteArray.empty x0 x7).toList = (rdOf ByteArray.empty x1 x8).toList then (if x7 < (x5.length : Int) then (if 0 ≤ (wrap64 (x7 + 1)) then (if (wrap64 (x7 + 1)) < (x5.length : Int) then (if 0 ≤ (wrap64 (x8 + 1)) then (if (wrap64 (x8 + 1)) < ((rd_L7 x5 (wrap64 (x7 + 1))).length : Int) then (if x8 < ((rd_L7 x5 x7).length : Int) then (spec_l1Table.l2 k x0 x1 (x5.set (x7 : Int).toNat ((rd_L7 x5 x7).set (x8 : Int).toNat (wrap64 ((rd (rd_L7 x5 (wrap64 (x7 + 1))) (wrap64 (x8 + 1))) + 1)))) x7 (wrap64 (x8 - 1))) else (none)) else (none)) else (none)) else (none)) else (none)) else (none)) else (if 0 ≤ (wrap64 (x7 + 1)) then (if (wrap64 (x7 + 1)) < (x5.length : Int) then (if x8 < ((rd_L7 x5 (wrap64 (x7 + 1))).length : Int) then (if x7 < (x5.length : Int) then (if 0 ≤ (wrap64 (x8 + 1)) then (if (wrap64 (x8 + 1)) < ((rd_L7 x5 x7).length : Int) then (if (rd (rd_L7 x5 (wrap64 (x7 + 1))) x8) ≥ (rd (rd_L7 x5 x7) (wrap64 (x8 + 1))) then (if x8 < ((rd_L7 x5 x7).length : Int) then (spec_l1Table.l2 k x0 x1 (x5.set (x7 : Int).toNat ((rd_L7 x5 x7).set (x8 : Int).toNat (rd (rd_L7 x5 (wrap64 (x7 + 1))) x8))) x7 (wrap64 (x8 - 1))) else (none)) else (if x8 < ((rd_L7 x5 x7).length : Int) then (spec_l1Table.l2 k x0 x1 (x5.set (x7 : Int).toNat ((rd_L7 x5 x7).set (x8 : Int).toNat (rd (rd_L7 x5 x7) (wrap64 (x8 + 1))))) x7 (wrap64 (x8 - 1))) else (none))) else (none)) else (none)) else (none)) else (none)) else (none)) else (none))) else (none)) else (none)) else (none)) else (none)) else (spec_l1Table.l1 k x0 x1 x5 (wrap64 (x7 - 1)))
end
def spec_l1Table.f (k : Nat) (l0 : List ByteArray) (l1 : List ByteArray) : Option ((List (List Int))) := spec_l1Table.l0 k l0 l1 (([] : List (List Int))) 0
def spec_l1Table.T12 : Bool × List (List Nat × List Nat) := (true, [([], []), ([], []), ([0, 1], [0, 1]), ([2], [2]), ([], []), ([], []), ([], []), ([5, 6], [5, 6]), ([7], [7]), ([], []), ([9], [9]), ([8, 10], [8, 10]), ([11], [11]), ([3, 4, 0, 1, 2, 3, 4, 5, 6, 7, 8, 9, 10, 11, 12], [3, 4]), ([13, 12, 0, 1, 2, 3, 4, 5, 6, 7, 8, 9, 10, 11, 12], [12, 13])])
def spec_l1Table.B12 : List Nat := [0, 0, 3, 7, 0, 0, 0, 96, 224, 0, 512, 2016, 4064, 8191, 16383]
theorem spec_l1Table.tab12 : rtab .any (opsOf Try.f95 12) = spec_l1Table.T12 := by kernel_rfl
theorem spec_l1Table.bits12 : waitsOk spec_l1Table.T12.2 spec_l1Table.B12 = true := by kernel_rfl
def spec_l1Table.T13 : Bool × List (List Nat × List Nat) := (true, [([], []), ([], []), ([0, 1], [0, 1]), ([2], [2]), ([], []), ([], []), ([4, 5], [4, 5]), ([6], [6]), ([3, 7], [3, 7]), ([8], [8])])
def spec_l1Table.B13 : List Nat := [0, 0, 3, 7, 0, 0, 48, 112, 255, 511]
theorem spec_l1Table.tab13 : rtab .any (opsOf Try.f95 13) = spec_l1Table.T13 := by kernel_rfl
theorem spec_l1Table.bits13 : waitsOk spec_l1Table.T13.2 spec_l1Table.B13 = true := by kernel_rfl
def spec_l1Table.T14 : Bool × List (List Nat × List Nat) := (true, [([], []), ([], []), ([0, 1], [0, 1]), ([2], [2]), ([], []), ([], []), ([], []), ([6], [6]), ([5, 7], [5, 7]), ([8], [8]), ([], []), ([10], [10]), ([9, 11], [9, 11]), ([12], [12]), ([13], [13]), ([3, 4, 0, 1, 2, 3, 4, 5, 6, 7, 8, 9, 10, 11, 12, 13, 14], [3, 4]), ([15, 14, 0, 1, 2, 3, 4, 5, 6, 7, 8, 9, 10, 11, 12, 13, 14], [14, 15])])
def spec_l1Table.B14 : List Nat := [0, 0, 3, 7, 0, 0, 0, 64, 224, 480, 0, 1024, 4064, 8160, 16352, 32767, 65535]
theorem spec_l1Table.tab14 : rtab .any (opsOf Try.f95 14) = spec_l1Table.T14 := by kernel_rfl
theorem spec_l1Table.bits14 : waitsOk spec_l1Table.T14.2 spec_l1Table.B14 = true := by kernel_rfl
def spec_l1Table.T15 : Bool × List (List Nat × List Nat) := (true, [([], []), ([], []), ([1], [1]), ([0, 2], [0, 2]), ([3], [3]), ([], []), ([4, 5], [4, 5]), ([6], [6]), ([], []), ([], []), ([8, 9], [8, 9]), ([10], [10]), ([], []), ([12], [12]), ([11, 13], [11, 13]), ([14], [14]), ([7, 15], [7, 15]), ([16], [16])])
def spec_l1Table.B15 : List Nat := [0, 0, 2, 7, 15, 0, 63, 127, 0, 0, 768, 1792, 0, 4096, 16128, 32512, 65535, 131071]
theorem spec_l1Table.tab15 : rtab .any (opsOf Try.f95 15) = spec_l1Table.T15 := by kernel_rfl
theorem spec_l1Table.bits15 : waitsOk spec_l1Table.T15.2 spec_l1Table.B15 = true := by kernel_rfl
def spec_l1Table.T16 : Bool × List (List Nat × List Nat) := (true, [([], []), ([], []), ([0, 1], [0, 1]), ([2], [2]), ([], []), ([], []), ([], []), ([6], [6]), ([5, 7], [5, 7]), ([8], [8]), ([], []), ([9, 10], [9, 10]), ([11], [11]), ([3, 4, 0, 1, 2, 3, 4, 5, 6, 7, 8, 9, 10, 11, 12], [3, 4]), ([13, 12, 0, 1, 2, 3, 4, 5, 6, 7, 8, 9, 10, 11, 12], [12, 13])])
def spec_l1Table.B16 : List Nat := [0, 0, 3, 7, 0, 0, 0, 64, 224, 480, 0, 2016, 4064, 8191, 16383]
theorem spec_l1Table.tab16 : rtab .any (opsOf Try.f95 16) = spec_l1Table.T16 := by kernel_rfl
theorem spec_l1Table.bits16 : waitsOk spec_l1Table.T16.2 spec_l1Table.B16 = true := by kernel_rfl
set_option maxHeartbeats 8000000 in
set_option maxRecDepth 100000 in
theorem spec_l1Table.calls (k : Nat) (A0 : Option Addr) (c0 : Nat) (l0 : List ByteArray) (A1 : Option Addr) (c1 : Nat) (l1 : List ByteArray) (r : List (List Int)) (w : World) (hr0 : Kd.C Kd.string w A0 l0.length l0) (hc0 : l0.length ≤ c0) (hr1 : Kd.C Kd.string w A1 l1.length l1) (hc1 : l1.length ≤ c1) (h : spec_l1Table.f k l0 l1 = some r) :
 Calls Try.prog 95 #[.slice A0 l0.length c0, .slice A1 l1.length c1] w fun e w' => ∃ v0_ : Value, e = .returned (v0_) ∧ Kd.S (Kd.slice 3 (Kd.int .i64)) 80 w' w.heap.size (fun _ => True) v0_ r ∧ Below w.heap.size w w' := by
 have HR0 := Aside0.mk hr0; have HC0 := Aside0.mk hc0; clear hr0 hc0; have HR1 := Aside0.mk hr1; have HC1 := Aside0.mk hc1; clear hr1 hc1; have HB := Aside0.mk (Below.refl w.heap.size w); have H : (spec_l1Table.l0 k l0 l1 (([] : List (List Int))) 0) = some r := h; clear h; obtain ⟨y276, hy276⟩ : ∃ y_ : List (List Int), y_ = (([] : List (List Int))) := ⟨_, rfl⟩; (replace H : (spec_l1Table.l0 k l0 l1 y276 0) = some r := by first | (rw [hy276]; with_reducible exact H) | (have H2_ := (Option.bind_some _ _).symm.trans H; rw [hy276]; with_reducible exact H2_) | (have H2_ := (Option.bind_some _ _).symm.trans H; with_reducible exact H2_) | with_reducible exact H | (rw [hy276]; exact H) | exact H); have Ny276 := Aside0.mk hy276; clear hy276; have H' := Aside0.mk H; clear H; go_enter Try.func95, Try.ntmps95; go_wp2_with (first | ((with_reducible refine gate_dst (N := 9) rfl ?_); refine Kd.S_lit (Kd.slice 3 (Kd.int .i64)) _ 80 ?hg (N := 9) ?hd (xs := ([] : List (List Int))) (inner := []) (ok := fun _ => True) (okp := fun _ => True) ?hr ?hp (fun _ hk => hk) trivial (Below.refl _ _) (Nat.le_refl _) (by simp) ?_; (case hd => rfl); (case hg => rfl); (case hr => first | (go_simp; done) | (go_simp; rfl)); (case hp => exact (Reps.none _ _)); intro v277 w3 ho4 hb hg_ hnew_; clear hg_ hnew_; (first | rw [← Ny276.out] at ho4 | (simp only [Int.reduceToNat] at ho4; rw [← Ny276.out] at ho4)); have n0_ := Aside0.mk (Kd.S_lower ho4 (below_size (by repeat (first | (with_reducible first | exact HB.out | apply below_alloc | apply pw_below_drewN | apply below_drew1) | exact HB.out)))); have n1_ := Aside0.mk (below_step (by repeat (first | (with_reducible first | exact HB.out | apply below_alloc | apply pw_below_drewN | apply below_drew1) | exact HB.out)) hb); clear HB; have HO278 := n0_; have HB := n1_; clear n0_ n1_; clear hb ho4)); go_loopg [5, 6] k (fun kq v5 v6 w' => ∃ (x5_1 : List (List Int)) (x6_1 : Int), v6 = .int .i64 x6_1 ∧ Aside0 (spec_l1Table.l0 kq l0 l1 x5_1 x6_1 = some r) ∧ Aside0 (kq ≤ k) ∧ Aside0 (Kd.S (Kd.slice 3 (Kd.int .i64)) 80 w' w.heap.size (fun _ => True) v5 x5_1) ∧ Aside0 (Below w.heap.size w w'))
 case atStart => exact ⟨(y276), (0), (by first | rfl | (simp; done) | (simp [*]; done)), H', ⟨Nat.le_refl _⟩, ⟨by (with_reducible repeat (first | apply Kd.S_alloc | apply Kd.S_drewN | apply Kd.S_drew)); exact HO278.out⟩, ⟨by repeat (first | (with_reducible first | exact HB.out | apply below_alloc | apply pw_below_drewN | apply below_drew1) | exact HB.out)⟩⟩
 case round =>
  clear H'; (try clear c1); (try clear p2); obtain ⟨x5_1, x6_1, rfl, HA, HK1, HO_5, HB⟩ := hrel
  cases gk with
  | zero => exact absurd HA.out (by simp [spec_l1Table.l0])
  | succ k1 =>
   have H := HA.out; clear HA; simp only [spec_l1Table.l0] at H; by_cases c5 : x6_1 ≤ (l0.length : Int)
   ·rw [if_pos c5] at H; have c5b0 : decide (x6_1 ≤ (l0.length : Int)) = true := decide_eq_true c5; clear c5; obtain ⟨ji6, hji6⟩ : ∃ j_ : Int, (wrap64 ((l1.length : Int) + 1)) = j_ := ⟨_, rfl⟩; (replace H : (if 0 ≤ (ji6) then (if (ji6 : Int).toNat ≤ 35184372088832 then (if x5_1.length < 5864062014805 then (spec_l1Table.l0 k1 l0 l1 (x5_1 ++ [(List.replicate (ji6 : Int).toNat 0)]) (wrap64 (x6_1 + 1))) else (none)) else (none)) else (none)) = some r := by first | (rw [hji6] at H; exact H) | (simp only [hji6] at H ⊢; exact H)); have hji6w : (IntKind.i64.wrap ((l1.length : Int) + 1)) = ji6 := (i64_w _).trans hji6; by_cases c7 : 0 ≤ (ji6)
    ·rw [if_pos c7] at H; have c7b0 := eq_true c7; have c7b1 : decide (0 ≤ (ji6)) = true := decide_eq_true c7; clear c7; by_cases c8 : (ji6 : Int).toNat ≤ 35184372088832
     ·rw [if_pos c8] at H; have c8b0 := eq_true c8; have c8b1 : decide ((ji6 : Int).toNat ≤ 35184372088832) = true := decide_eq_true c8; clear c8; obtain ⟨y279, hy279⟩ : ∃ y_ : List Int, y_ = (List.replicate (ji6 : Int).toNat 0) := ⟨_, rfl⟩; (replace H : (if x5_1.length < 5864062014805 then (spec_l1Table.l0 k1 l0 l1 (x5_1 ++ [y279]) (wrap64 (x6_1 + 1))) else (none)) = some r := by first | (rw [hy279]; with_reducible exact H) | (have H2_ := (Option.bind_some _ _).symm.trans H; rw [hy279]; with_reducible exact H2_) | (have H2_ := (Option.bind_some _ _).symm.trans H; with_reducible exact H2_) | with_reducible exact H | (rw [hy279]; exact H) | exact H); have Ny279 := Aside0.mk hy279; clear hy279; by_cases c9 : x5_1.length < 5864062014805
      ·rw [if_pos c9] at H; have LMc9 := Aside0.mk c9; clear c9; obtain ⟨y282, hy282⟩ : ∃ y_ : List (List Int), y_ = (x5_1 ++ [y279]) := ⟨_, rfl⟩; (replace H : (spec_l1Table.l0 k1 l0 l1 y282 (wrap64 (x6_1 + 1))) = some r := by first | (rw [hy282]; with_reducible exact H) | (have H2_ := (Option.bind_some _ _).symm.trans H; rw [hy282]; with_reducible exact H2_) | (have H2_ := (Option.bind_some _ _).symm.trans H; with_reducible exact H2_) | with_reducible exact H | (rw [hy282]; exact H) | exact H); have Ny282 := Aside0.mk hy282; clear hy282; have H' := Aside0.mk H; clear H; go_wp2_with (first | ((with_reducible refine gate_dst (N := 20) rfl ?_); refine Kd.R_make (Kd.int .i64) _ 3 rfl (N := 20) rfl 80 _ _ rfl ji6 rfl rfl Try.underlying80 (.int .i64 0) 8 info3 rfl (by decide) (by omega) 0 (ok := fun _ => True) (okp := fun _ => True) rfl (fun _ hk => hk) trivial (of_decide_eq_true (by assumption)) (Nat.le_trans (Nat.mul_le_mul_right _ (of_decide_eq_true (by assumption) : ji6.toNat ≤ 35184372088832)) (by omega)) (Below.refl _ _) (Nat.le_refl _) ?_; intro v280 w10 ho11 hb hg_ hnew_; clear hg_ hnew_; (first | rw [← Ny279.out] at ho11 | (simp only [Int.reduceToNat] at ho11; rw [← Ny279.out] at ho11)); have n0_ := Aside0.mk (Kd.S_elder' (by (with_reducible repeat (first | apply Kd.S_alloc | apply Kd.S_drewN | apply Kd.S_drew)); exact HO_5.out) (Kd.R_base ho11) hb); have n1_ := Aside0.mk (Kd.R_lower ho11 (below_size (by repeat (first | (with_reducible first | exact HB.out | apply below_alloc | apply pw_below_drewN | apply below_drew1) | exact HB.out)))); have n2_ := Aside0.mk (below_step (by repeat (first | (with_reducible first | exact HB.out | apply below_alloc | apply pw_below_drewN | apply below_drew1) | exact HB.out)) hb); clear HO_5; clear HB; have HO_5 := n0_; have HO281 := n1_; have HB := n2_; clear n0_ n1_ n2_; clear hb ho11; obtain ⟨Ao13, co13, eo13⟩ := Kd.R_slice HO281.out; subst eo13) | ((with_reducible refine gate_builtin (b := .append) (xs := #[.tmp 16, .tmp 21]) rfl ?_); at_builtin; refine Kd.S_append (Kd.slice 3 (Kd.int .i64)) (w0 := w) w.heap.size rfl (.tmp 16) (.tmp 21) 95 80 (.slice none 0 0) 24 rfl Try.underlying95 info80 rfl (by decide) (by omega) u5 x5_1 y279 [.slice Ao13 y279.length co13] (fun _ => True) (fun k_ => some k_ = (.slice Ao13 y279.length co13 : Value).ownBlock) rfl rfl ?aP (fun k_ hk_ => ((Kd.R_mono (ok' := fun k_ => ((fun _ => True)) k_ ∧ some k_ ≠ (u5 : Value).ownBlock) (Kd.R_apart' (HO281.out) (Kd.S_typed HO_5.out) (by decide)) (fun k_ hk => ⟨trivial, hk.2⟩))).1 k_ hk_.symm) ?aF ?aO ?aB ?aS ?aL ?_; (case aP => exact Kd.M_row (Kd.R_mono (Kd.R_tight rfl (Kd.R_mono (ok' := fun k_ => ((fun _ => True)) k_ ∧ some k_ ≠ (u5 : Value).ownBlock) (Kd.R_apart' (HO281.out) (Kd.S_typed HO_5.out) (by decide)) (fun k_ hk => ⟨trivial, hk.2⟩))) (fun _ h_ => h_))); (case aB => exact (by repeat (first | (with_reducible first | exact HB.out | apply below_alloc | apply pw_below_drewN | apply below_drew1) | exact HB.out))); (case aF => exact (fun _ _ => trivial)); (case aO => exact (by (with_reducible repeat (first | apply Kd.S_alloc | apply Kd.S_drewN | apply Kd.S_drew)); exact Kd.S_mono HO_5.out (fun k_ hk => ⟨trivial, fun e_ => hk.2 e_⟩))); (case aS => exact (below_size (by repeat (first | (with_reducible first | exact HB.out | apply below_alloc | apply pw_below_drewN | apply below_drew1) | exact HB.out)))); (case aL => have := LMc9.out; omega); intro v283 w12 ho hb hg hat; rw [← Ny282.out] at ho; have n0_ := Aside0.mk (hb); have n1_ := Aside0.mk (ho); clear HB; clear HO_5; clear HO281; have HB := n0_; have HO284 := n1_; clear n0_ n1_; clear ho hb hg hat))
       go_roundg k1
       case measure => have := HK1.out; omega
       case rel => exact ⟨(y282), (wrap64 (x6_1 + 1)), (by first | rfl | (simp; done) | (simp [*]; done)), H', ⟨by have := HK1.out; omega⟩, ⟨by (with_reducible repeat (first | apply Kd.S_alloc | apply Kd.S_drewN | apply Kd.S_drew)); exact HO284.out⟩, ⟨by repeat (first | (with_reducible first | exact HB.out | apply below_alloc | apply pw_below_drewN | apply below_drew1) | exact HB.out)⟩⟩
      ·rw [if_neg c9] at H; exact absurd H (by simp)
     ·rw [if_neg c8] at H; exact absurd H (by simp)
    ·rw [if_neg c7] at H; exact absurd H (by simp)
   ·rw [if_neg c5] at H; have c5b0 : decide (x6_1 ≤ (l0.length : Int)) = false := decide_eq_false c5; clear c5; have H' := Aside0.mk H; clear H; go_wp2; go_loopg [7] k1 (fun kq v7 w' => ∃ (x5_2 : List (List Int)) (x7_2 : Int), v7 = .int .i64 x7_2 ∧ Aside0 (spec_l1Table.l1 kq l0 l1 x5_2 x7_2 = some r) ∧ Aside0 (kq ≤ k1) ∧ Aside0 (Kd.S (Kd.slice 3 (Kd.int .i64)) 80 w' w.heap.size (fun _ => True) u5 x5_2) ∧ Aside0 (Below w.heap.size w w'))
    case atStart => exact ⟨(x5_1), (wrap64 ((l0.length : Int) - 1)), (by first | rfl | (simp; done) | (simp [*]; done)), H', ⟨Nat.le_refl _⟩, ⟨by (with_reducible repeat (first | apply Kd.S_alloc | apply Kd.S_drewN | apply Kd.S_drew)); exact HO_5.out⟩, ⟨by repeat (first | (with_reducible first | exact HB.out | apply below_alloc | apply pw_below_drewN | apply below_drew1) | exact HB.out)⟩⟩
    case round =>
     clear H'; (try clear c1); (try clear p2); (try clear c5); (try clear c5b0); (try clear p6); (try clear c7); (try clear c7b0); (try clear c7b1); (try clear c8); (try clear c8b0); (try clear c8b1); (try clear c9); (try clear p2); obtain ⟨x5_2, x7_2, rfl, HA, HK2, HO_5, HB⟩ := hrel
     cases gk with
     | zero => exact absurd HA.out (by simp [spec_l1Table.l1])
     | succ k2 =>
      have H := HA.out; clear HA; simp only [spec_l1Table.l1] at H; by_cases c14 : x7_2 ≥ 0
      ·rw [if_pos c14] at H; have c14b0 : decide (0 ≤ x7_2) = true := decide_eq_true c14; clear c14; have H' := Aside0.mk H; clear H; go_wp2; go_loopg [8] k2 (fun kq v8 w' => ∃ (x5_3 : List (List Int)) (x8_3 : Int), v8 = .int .i64 x8_3 ∧ Aside0 (spec_l1Table.l2 kq l0 l1 x5_3 x7_2 x8_3 = some r) ∧ Aside0 (kq ≤ k2) ∧ Aside0 (Kd.S (Kd.slice 3 (Kd.int .i64)) 80 w' w.heap.size (fun _ => True) u5 x5_3) ∧ Aside0 (Below w.heap.size w w'))
       case atStart => exact ⟨(x5_2), (wrap64 ((l1.length : Int) - 1)), (by first | rfl | (simp; done) | (simp [*]; done)), H', ⟨Nat.le_refl _⟩, ⟨by (with_reducible repeat (first | apply Kd.S_alloc | apply Kd.S_drewN | apply Kd.S_drew)); exact HO_5.out⟩, ⟨by repeat (first | (with_reducible first | exact HB.out | apply below_alloc | apply pw_below_drewN | apply below_drew1) | exact HB.out)⟩⟩
       case round =>
        clear H'; (try clear c1); (try clear p2); (try clear c5); (try clear c5b0); (try clear p6); (try clear c7); (try clear c7b0); (try clear c7b1); (try clear c8); (try clear c8b0); (try clear c8b1); (try clear c9); (try clear c14); (try clear c14b0); (try clear p2); (try clear p6); obtain ⟨x5_3, x8_3, rfl, HA, HK3, HO_5, HB⟩ := hrel
        cases gk with
        | zero => exact absurd HA.out (by simp [spec_l1Table.l2])
        | succ k3 =>
         have H := HA.out; clear HA; simp only [spec_l1Table.l2] at H; by_cases c15 : x8_3 ≥ 0
         ·rw [if_pos c15] at H; have c15b0 : decide (0 ≤ x8_3) = true := decide_eq_true c15; clear c15; by_cases c16 : 0 ≤ x7_2
          ·rw [if_pos c16] at H; have c16b0 : decide (0 ≤ x7_2) = true := decide_eq_true c16; clear c16; by_cases c17 : x7_2 < (l0.length : Int)
           ·rw [if_pos c17] at H; have c17b0 : decide (x7_2 < (l0.length : Int)) = true := decide_eq_true c17; clear c17; by_cases c18 : 0 ≤ x8_3
            ·rw [if_pos c18] at H; have c18b0 : decide (0 ≤ x8_3) = true := decide_eq_true c18; clear c18; by_cases c19 : x8_3 < (l1.length : Int)
             ·rw [if_pos c19] at H; have c19b0 : decide (x8_3 < (l1.length : Int)) = true := decide_eq_true c19; clear c19; by_cases c20 : (rdOf ByteArray.empty l0 x7_2).toList = (rdOf ByteArray.empty l1 x8_3).toList
              ·rw [if_pos c20] at H; have c20b0 : ((rdOf ByteArray.empty l0 x7_2).toList == (rdOf ByteArray.empty l1 x8_3).toList) = true := beq_iff_eq.mpr c20; have c20b1 : ((rdOf ByteArray.empty l0 x7_2).toList != (rdOf ByteArray.empty l1 x8_3).toList) = false := bne_eq_false_iff_eq.mpr c20; clear c20; by_cases c21 : x7_2 < (x5_3.length : Int)
               ·rw [if_pos c21] at H; have c21b0 : decide (x7_2 < (x5_3.length : Int)) = true := decide_eq_true c21; clear c21; obtain ⟨ji22, hji22⟩ : ∃ j_ : Int, (wrap64 (x7_2 + 1)) = j_ := ⟨_, rfl⟩; (replace H : (if 0 ≤ (ji22) then (if (ji22) < (x5_3.length : Int) then (if 0 ≤ (wrap64 (x8_3 + 1)) then (if (wrap64 (x8_3 + 1)) < ((rd_L7 x5_3 (ji22)).length : Int) then (if x8_3 < ((rd_L7 x5_3 x7_2).length : Int) then (spec_l1Table.l2 k3 l0 l1 (x5_3.set (x7_2 : Int).toNat ((rd_L7 x5_3 x7_2).set (x8_3 : Int).toNat (wrap64 ((rd (rd_L7 x5_3 (ji22)) (wrap64 (x8_3 + 1))) + 1)))) x7_2 (wrap64 (x8_3 - 1))) else (none)) else (none)) else (none)) else (none)) else (none)) = some r := by first | (rw [hji22] at H; exact H) | (simp only [hji22] at H ⊢; exact H)); have hji22w : (IntKind.i64.wrap (x7_2 + 1)) = ji22 := (i64_w _).trans hji22; by_cases c23 : 0 ≤ (ji22)
                ·rw [if_pos c23] at H; have c23b0 : decide (0 ≤ (ji22)) = true := decide_eq_true c23; clear c23; by_cases c24 : (ji22) < (x5_3.length : Int)
                 ·rw [if_pos c24] at H; have c24b0 : decide ((ji22) < (x5_3.length : Int)) = true := decide_eq_true c24; clear c24; obtain ⟨ji25, hji25⟩ : ∃ j_ : Int, (wrap64 (x8_3 + 1)) = j_ := ⟨_, rfl⟩; (replace H : (if 0 ≤ (ji25) then (if (ji25) < ((rd_L7 x5_3 (ji22)).length : Int) then (if x8_3 < ((rd_L7 x5_3 x7_2).length : Int) then (spec_l1Table.l2 k3 l0 l1 (x5_3.set (x7_2 : Int).toNat ((rd_L7 x5_3 x7_2).set (x8_3 : Int).toNat (wrap64 ((rd (rd_L7 x5_3 (ji22)) (ji25)) + 1)))) x7_2 (wrap64 (x8_3 - 1))) else (none)) else (none)) else (none)) = some r := by first | (rw [hji25] at H; exact H) | (simp only [hji25] at H ⊢; exact H)); have hji25w : (IntKind.i64.wrap (x8_3 + 1)) = ji25 := (i64_w _).trans hji25; by_cases c26 : 0 ≤ (ji25)
                  ·rw [if_pos c26] at H; have c26b0 : decide (0 ≤ (ji25)) = true := decide_eq_true c26; clear c26; by_cases c27 : (ji25) < ((rd_L7 x5_3 (ji22)).length : Int)
                   ·rw [if_pos c27] at H; have c27b0 : decide ((ji25) < ((rd_L7 x5_3 (ji22)).length : Int)) = true := decide_eq_true c27; clear c27; by_cases c28 : x8_3 < ((rd_L7 x5_3 x7_2).length : Int)
                    ·rw [if_pos c28] at H; have c28b0 : decide (x8_3 < ((rd_L7 x5_3 x7_2).length : Int)) = true := decide_eq_true c28; clear c28; obtain ⟨y290, hy290⟩ : ∃ y_ : List Int, y_ = ((rd_L7 x5_3 x7_2).set (x8_3 : Int).toNat (wrap64 ((rd (rd_L7 x5_3 (ji22)) (ji25)) + 1))) := ⟨_, rfl⟩; (replace H : (spec_l1Table.l2 k3 l0 l1 (x5_3.set (x7_2 : Int).toNat y290) x7_2 (wrap64 (x8_3 - 1))) = some r := by first | (rw [hy290]; with_reducible exact H) | (have H2_ := (Option.bind_some _ _).symm.trans H; rw [hy290]; with_reducible exact H2_) | (have H2_ := (Option.bind_some _ _).symm.trans H; with_reducible exact H2_) | with_reducible exact H | (rw [hy290]; exact H) | exact H); have Ny290 := Aside0.mk hy290; clear hy290; obtain ⟨y292, hy292⟩ : ∃ y_ : List (List Int), y_ = (x5_3.set (x7_2 : Int).toNat y290) := ⟨_, rfl⟩; (replace H : (spec_l1Table.l2 k3 l0 l1 y292 x7_2 (wrap64 (x8_3 - 1))) = some r := by first | (rw [hy292]; with_reducible exact H) | (have H2_ := (Option.bind_some _ _).symm.trans H; rw [hy292]; with_reducible exact H2_) | (have H2_ := (Option.bind_some _ _).symm.trans H; with_reducible exact H2_) | with_reducible exact H | (rw [hy292]; exact H) | exact H); have Ny292 := Aside0.mk hy292; clear hy292; have H' := Aside0.mk H; clear H; (try go_wp2); have n0_ := Aside0.mk (Kd.S_drew HO_5.out); have n1_ := Aside0.mk (below_drew1 HB.out); clear HO_5; clear HB; have HO_5 := n0_; have HB := n1_; clear n0_ n1_; have p285 : 0 ≤ (x7_2 : Int) := of_decide_eq_true (by assumption); have q285 : x7_2 < (l0.length : Int) := of_decide_eq_true (by assumption); obtain ⟨ad285, e285, hx285_0⟩ := Kd.at_string HR0.out x7_2 p285 q285; have hw285_0 := hx285_0; cases e285; replace hx285_0 := (HB.out.cell (World.block_lt_of_cell? w _ hx285_0)).trans hx285_0; replace p285 := eq_true p285; replace q285 := eq_true q285; have p286 : 0 ≤ (x8_3 : Int) := of_decide_eq_true (by assumption); have q286 : x8_3 < (l1.length : Int) := of_decide_eq_true (by assumption); obtain ⟨ad286, e286, hx286_0⟩ := Kd.at_string HR1.out x8_3 p286 q286; have hw286_0 := hx286_0; cases e286; replace hx286_0 := (HB.out.cell (World.block_lt_of_cell? w _ hx286_0)).trans hx286_0; replace p286 := eq_true p286; replace q286 := eq_true q286; refine start_ (n := 10) (S := fun w' => w'.cell? (ad285.add (x7_2).toNat) = some (.string (rdOf ByteArray.empty l0 x7_2)) ∧ w'.cell? (ad286.add (x8_3).toNat) = some (.string (rdOf ByteArray.empty l1 x8_3))) (ds := []) #[f_, f_, f_, f_, f_, f_, f_, f_, f_, f_] (by kernel_rfl) rfl rfl ⟨((HB.out.cell (World.block_lt_of_cell? w _ hw285_0)).trans hw285_0), ((HB.out.cell (World.block_lt_of_cell? w _ hw286_0)).trans hw286_0)⟩ (fun hHeld => ?_); refine with_tabW spec_l1Table.tab13 spec_l1Table.bits13 (fun HT_ HW_ => ?_); generalize wr.drew = w30 at HO_5 HB hx285_0 hx286_0 hHeld ⊢; refine pure_ (i := 0) (N := some 52) (v := ?_) (a' := ?_) #[t_, f_, f_, f_, f_, f_, f_, f_, f_, f_] rfl rfl (any_of HT_.out (by kernel_rfl)) (fun _ _ _ h => h) (Or.inl ⟨by rfl, ?_⟩) ?_ ?_
                     rotate_left
                     ·intro w'; go_simp
                      with_reducible rfl
                     rotate_left
                     ·simp only [Act.put, List.setIfInBounds_toArray, List.set_cons_zero, List.set_cons_succ, i64_w, i32_w]
                      rfl
                     refine pure_ (i := 1) (N := some 53) (v := ?_) (a' := ?_) #[t_, t_, f_, f_, f_, f_, f_, f_, f_, f_] rfl rfl (any_of HT_.out (by kernel_rfl)) (fun _ _ _ h => h) (Or.inl ⟨by rfl, ?_⟩) ?_ ?_
                     rotate_left
                     ·intro w'; go_simp
                      with_reducible rfl
                     rotate_left
                     ·simp only [Act.put, List.setIfInBounds_toArray, List.set_cons_zero, List.set_cons_succ, i64_w, i32_w]
                      rfl
                     refine pure_ (i := 2) (N := some 54) (v := ?_) (a' := ?_) #[t_, t_, t_, f_, f_, f_, f_, f_, f_, f_] rfl rfl (any_of HT_.out (by kernel_rfl)) (fun _ _ _ h => h) (Or.inl ⟨by rfl, ?_⟩) ?_ ?_
                     rotate_left
                     ·intro w'; go_simp
                      with_reducible rfl
                     rotate_left
                     ·simp only [Act.put, List.setIfInBounds_toArray, List.set_cons_zero, List.set_cons_succ, i64_w, i32_w]
                      rfl
                     refine pure_ (i := 4) (N := some 56) (v := ?_) (a' := ?_) #[t_, t_, t_, f_, t_, f_, f_, f_, f_, f_] rfl rfl (any_of HT_.out (by kernel_rfl)) (fun _ _ _ h => h) (Or.inl ⟨by rfl, ?_⟩) ?_ ?_
                     rotate_left
                     ·intro w'; go_simp
                      with_reducible rfl
                     rotate_left
                     ·simp only [Act.put, List.setIfInBounds_toArray, List.set_cons_zero, List.set_cons_succ, i64_w, i32_w]
                      rfl
                     refine pure_ (i := 5) (N := some 57) (v := ?_) (a' := ?_) #[t_, t_, t_, f_, t_, t_, f_, f_, f_, f_] rfl rfl (any_of HT_.out (by kernel_rfl)) (fun _ _ _ h => h) (Or.inl ⟨by rfl, ?_⟩) ?_ ?_
                     rotate_left
                     ·intro w'; go_simp
                      with_reducible rfl
                     rotate_left
                     ·simp only [Act.put, List.setIfInBounds_toArray, List.set_cons_zero, List.set_cons_succ, i64_w, i32_w]
                      rfl
                     refine pure_ (i := 6) (N := some 58) (v := ?_) (a' := ?_) #[t_, t_, t_, f_, t_, t_, t_, f_, f_, f_] rfl rfl (any_of HT_.out (by kernel_rfl)) (fun _ _ _ h => h) (Or.inl ⟨by rfl, ?_⟩) ?_ ?_
                     rotate_left
                     ·intro w'; go_simp
                      with_reducible rfl
                     rotate_left
                     ·simp only [Act.put, List.setIfInBounds_toArray, List.set_cons_zero, List.set_cons_succ, i64_w, i32_w]
                      rfl
                     refine take_ (i := 3) (N := some 55) (v := ?_) (a' := ?_) #[t_, t_, t_, t_, t_, t_, t_, f_, f_, f_] rfl rfl (take_ofW HT_.out HW_.out (by kernel_rfl)) (fun _ _ _ h => h) (Or.inl ⟨by rfl, ?_⟩) hHeld ?_ ?_
                     rotate_left
                     ·rintro w' ⟨s0, s1⟩; go_simp
                      with_reducible rfl
                     rotate_left
                     ·simp only [Act.put, List.setIfInBounds_toArray, List.set_cons_zero, List.set_cons_succ, i64_w, i32_w]
                      rfl
                     refine take_ (i := 7) (N := some 59) (v := ?_) (a' := ?_) #[t_, t_, t_, t_, t_, t_, t_, t_, f_, f_] rfl rfl (take_ofW HT_.out HW_.out (by kernel_rfl)) (fun _ _ _ h => h) (Or.inl ⟨by rfl, ?_⟩) hHeld ?_ ?_
                     rotate_left
                     ·rintro w' ⟨s0, s1⟩; go_simp
                      with_reducible rfl
                     rotate_left
                     ·simp only [Act.put, List.setIfInBounds_toArray, List.set_cons_zero, List.set_cons_succ, i64_w, i32_w]
                      rfl
                     refine pure_ (i := 8) (N := some 60) (v := ?_) (a' := ?_) #[t_, t_, t_, t_, t_, t_, t_, t_, t_, f_] rfl rfl (any_of HT_.out (by kernel_rfl)) (fun _ _ _ h => h) (Or.inl ⟨by rfl, ?_⟩) ?_ ?_
                     rotate_left
                     ·intro w'; go_simp
                      with_reducible rfl
                     rotate_left
                     ·simp only [Act.put, List.setIfInBounds_toArray, List.set_cons_zero, List.set_cons_succ, i64_w, i32_w]
                      rfl
                     refine pure_ (i := 9) (N := some 51) (v := ?_) (a' := ?_) #[t_, t_, t_, t_, t_, t_, t_, t_, t_, t_] rfl rfl (any_of HT_.out (by kernel_rfl)) (fun _ _ _ h => h) (Or.inl ⟨by rfl, ?_⟩) ?_ ?_
                     rotate_left
                     ·intro w'; go_simp
                      with_reducible rfl
                     rotate_left
                     ·simp only [Act.put, List.setIfInBounds_toArray, List.set_cons_zero, List.set_cons_succ, i64_w, i32_w]
                      rfl
                     refine done_ (done_of HT_.out (by kernel_rfl)) ?_; (try go_wp2); have n0_ := Aside0.mk (Kd.S_drew HO_5.out); have n1_ := Aside0.mk (below_drew1 HB.out); clear HO_5; clear HB; have HO_5 := n0_; have HB := n1_; clear n0_ n1_; obtain ⟨Ao32, co32, eo32⟩ := Kd.S_slice HO_5.out
                     (first | subst eo32 | (injection eo32 with f1_ f2_ f3_; have f4_ := f1_.symm; have f5_ := f3_.symm; clear f1_ f2_ f3_; subst f4_; subst f5_))
                     have p287 : 0 ≤ (x7_2 : Int) := of_decide_eq_true (by assumption); have q287 : x7_2 < (x5_3.length : Int) := of_decide_eq_true (by assumption); obtain ⟨ad287, A287_0, c287_0, e287, hx287_0, hl287_0, hi287_0⟩ := at_L7 (Kd.S_reads' HO_5.out).2.2 x7_2 p287 q287; cases e287; obtain ⟨ce287, hce287, hMe287, hcc287⟩ := Kd.S_get HO_5.out [] x7_2 p287 (by first | exact q287 | exact of_decide_eq_true (by assumption) | (have e_ := (Kd.S_reads' HO_5.out).1; omega)); obtain ⟨ve287_0, rfl, ge287_0⟩ := hMe287; have hv287_0 := hcc287 0 _ rfl; rw [Nat.add_zero, show ((Kd.slice 3 (Kd.int .i64))).sz = 1 from rfl, Nat.mul_one] at hv287_0; replace hv287_0 := Option.some.inj (hv287_0.symm.trans hx287_0); rw [hv287_0] at ge287_0; have HL287_0 := Aside0.mk (show Kd.R (Kd.int .i64) 3 _ _ _ _ (rd_L7 x5_3 x7_2) from ge287_0); clear hv287_0 ge287_0; have HX287_0 := Aside0.mk hx287_0; clear hcc287 hce287; have HR287_0 := Aside0.mk hi287_0; have HC287_0 := Aside0.mk hl287_0; clear hi287_0 hl287_0; replace p287 := eq_true p287; replace q287 := eq_true q287; have p288 : 0 ≤ ((ji22) : Int) := of_decide_eq_true (by assumption); have q288 : (ji22) < (x5_3.length : Int) := of_decide_eq_true (by assumption); obtain ⟨ad288, A288_0, c288_0, e288, hx288_0, hl288_0, hi288_0⟩ := at_L7 (Kd.S_reads' HO_5.out).2.2 (ji22) p288 q288; obtain rfl : ad287 = ad288 := (by injection e288); obtain ⟨ce288, hce288, hMe288, hcc288⟩ := Kd.S_get HO_5.out [] (ji22) p288 (by first | exact q288 | exact of_decide_eq_true (by assumption) | (have e_ := (Kd.S_reads' HO_5.out).1; omega)); obtain ⟨ve288_0, rfl, ge288_0⟩ := hMe288; have hv288_0 := hcc288 0 _ rfl; rw [Nat.add_zero, show ((Kd.slice 3 (Kd.int .i64))).sz = 1 from rfl, Nat.mul_one] at hv288_0; replace hv288_0 := Option.some.inj (hv288_0.symm.trans hx288_0); rw [hv288_0] at ge288_0; have HL288_0 := Aside0.mk (show Kd.R (Kd.int .i64) 3 _ _ _ _ (rd_L7 x5_3 (ji22)) from ge288_0); clear hv288_0 ge288_0; have HX288_0 := Aside0.mk hx288_0; clear hcc288 hce288; have HR288_0 := Aside0.mk hi288_0; have HC288_0 := Aside0.mk hl288_0; clear hi288_0 hl288_0; replace p288 := eq_true p288; replace q288 := eq_true q288; have p289 : 0 ≤ ((ji25) : Int) := of_decide_eq_true (by assumption); have q289 : (ji25) < ((rd_L7 x5_3 (ji22)).length : Int) := of_decide_eq_true (by assumption); obtain ⟨ad289, e289, hx289_0⟩ := Kd.at_int (by repeat (first | (with_reducible exact HR288_0.out) | (with_reducible refine Kd.C_alloc ?_ _) | (with_reducible refine Kd.C_drewN ?_ _) | (with_reducible refine Kd.C_drew ?_) | exact HR288_0.out)) (ji25) p289 q289; cases e289; replace p289 := eq_true p289; replace q289 := eq_true q289; have p29 : 0 ≤ (x8_3 : Int) := of_decide_eq_true (by assumption); have q29 : (x8_3 : Int) < (((rd_L7 x5_3 x7_2).length : Int) : Int) := of_decide_eq_true (by assumption); obtain ⟨go29, co29, eo29, gb29, gl29, cl29, HG29⟩ := Kd.R_form HL287_0.out (by omega)
                     (first | cases eo29 | (injection eo29 with ea_ en_ ec_; (first | subst ea_ | (injection ea_ with ea_; subst ea_)); subst ec_; clear en_))
                     have GB29 := Aside0.mk gb29; have GG29 := Aside0.mk HG29; clear gb29 gl29 HG29; obtain ⟨hx29_0, hf29_0⟩ := Kd.R_celln 0 HL287_0.out (x8_3 : Int) p29 q29; replace p29 := eq_true p29; replace q29 := eq_true q29; have hq33 : (x7_2 : Int) < (x5_3.length : Int) := (by have h_ : (x7_2 : Int) < ((x5_3.length : Int) : Int) := of_decide_eq_true (by assumption); first | exact h_ | (have e_ := (Kd.S_reads' HO_5.out).1; omega) | simpa only [List.length_set, List.length_set] using h_); obtain ⟨oki33, ce33, hcl33, hM33, hcc33, hok33, hbk33⟩ := Kd.S_borrow HO_5.out [] (x7_2 : Int) (of_decide_eq_true (by assumption)) hq33; obtain ⟨ve33_0, rfl, ge33_0⟩ := hM33; have hv33 := hcc33 0 _ rfl; rw [Nat.add_zero, show ((Kd.slice 3 (Kd.int .i64))).sz = 1 from rfl, Nat.mul_one] at hv33; replace hv33 := Option.some.inj (hv33.symm.trans HX287_0.out); subst hv33; clear hcc33 hcl33; replace ge33_0 := (show Kd.R (Kd.int .i64) 3 _ _ _ _ (rd_L7 x5_3 x7_2) from ge33_0); have HP33 := Kd.R_putg ge33_0 (x8_3 : Int) (wrap64 ((rd (rd_L7 x5_3 (ji22)) (ji25)) + 1)); rw [← Ny290.out] at HP33; have HS33 := hbk33 HP33.2 (fun k_ e_ => by injection e_ with e_; subst e_; exact ge33_0.1 _ rfl) (x' := y290) (Kd.M_row HP33.1); rw [← Ny292.out] at HS33; have HQ33 := Aside0.mk HS33; clear HP33 HS33 hbk33 hok33; refine start_ (n := 17) (S := fun w' => w'.cell? (ad287.add (x7_2).toNat) = some (.slice (some ⟨go29, 0, none⟩) (rd_L7 x5_3 x7_2).length c287_0) ∧ w'.cell? (ad287.add ((ji22)).toNat) = some (.slice (some ad289) (rd_L7 x5_3 (ji22)).length c288_0) ∧ w'.cell? (ad289.add ((ji25)).toNat) = some (.int .i64 (rd (rd_L7 x5_3 (ji22)) (ji25)))) (ds := [16]) #[f_, f_, f_, f_, f_, f_, f_, f_, f_, f_, f_, f_, f_, f_, f_, f_, f_] (by kernel_rfl) rfl rfl ⟨hx287_0, hx288_0, hx289_0⟩ (fun hHeld => ?_); refine with_tabW spec_l1Table.tab14 spec_l1Table.bits14 (fun HT_ HW_ => ?_); generalize w30.drew = w31 at HO_5 HB GG29 HL287_0 HL288_0 HQ33 HR287_0 HR288_0 HX287_0 HX288_0 hf29_0 hx287_0 hx288_0 hx289_0 hx29_0 hHeld ⊢; refine pure_ (i := 0) (N := some 61) (v := ?_) (a' := ?_) #[t_, f_, f_, f_, f_, f_, f_, f_, f_, f_, f_, f_, f_, f_, f_, f_, f_] rfl rfl (any_of HT_.out (by kernel_rfl)) (fun _ _ _ h => h) (Or.inl ⟨by rfl, ?_⟩) ?_ ?_
                     rotate_left
                     ·intro w'; go_simp
                      with_reducible rfl
                     rotate_left
                     ·simp only [Act.put, List.setIfInBounds_toArray, List.set_cons_zero, List.set_cons_succ, i64_w, i32_w]
                      rfl
                     refine pure_ (i := 1) (N := some 62) (v := ?_) (a' := ?_) #[t_, t_, f_, f_, f_, f_, f_, f_, f_, f_, f_, f_, f_, f_, f_, f_, f_] rfl rfl (any_of HT_.out (by kernel_rfl)) (fun _ _ _ h => h) (Or.inl ⟨by rfl, ?_⟩) ?_ ?_
                     rotate_left
                     ·intro w'; go_simp
                      with_reducible rfl
                     rotate_left
                     ·simp only [Act.put, List.setIfInBounds_toArray, List.set_cons_zero, List.set_cons_succ, i64_w, i32_w]
                      rfl
                     refine pure_ (i := 2) (N := some 63) (v := ?_) (a' := ?_) #[t_, t_, t_, f_, f_, f_, f_, f_, f_, f_, f_, f_, f_, f_, f_, f_, f_] rfl rfl (any_of HT_.out (by kernel_rfl)) (fun _ _ _ h => h) (Or.inl ⟨by rfl, ?_⟩) ?_ ?_
                     rotate_left
                     ·intro w'; go_simp
                      with_reducible rfl
                     rotate_left
                     ·simp only [Act.put, List.setIfInBounds_toArray, List.set_cons_zero, List.set_cons_succ, i64_w, i32_w]
                      rfl
                     refine pure_ (i := 4) (N := some 65) (v := ?_) (a' := ?_) #[t_, t_, t_, f_, t_, f_, f_, f_, f_, f_, f_, f_, f_, f_, f_, f_, f_] rfl rfl (any_of HT_.out (by kernel_rfl)) (fun _ _ _ h => h) (Or.inl ⟨by rfl, ?_⟩) ?_ ?_
                     rotate_left
                     ·intro w'; go_simp
                      with_reducible rfl
                     rotate_left
                     ·simp only [Act.put, List.setIfInBounds_toArray, List.set_cons_zero, List.set_cons_succ, i64_w, i32_w]
                      rfl
                     refine pure_ (i := 5) (N := some 66) (v := ?_) (a' := ?_) #[t_, t_, t_, f_, t_, t_, f_, f_, f_, f_, f_, f_, f_, f_, f_, f_, f_] rfl rfl (any_of HT_.out (by kernel_rfl)) (fun _ _ _ h => h) (Or.inl ⟨by rfl, ?_⟩) ?_ ?_
                     rotate_left
                     ·intro w'; go_simp
                      with_reducible rfl
                     rotate_left
                     ·simp only [Act.put, List.setIfInBounds_toArray, List.set_cons_zero, List.set_cons_succ, i64_w, i32_w]
                      rfl
                     refine pure_ (i := 6) (N := some 67) (v := ?_) (a' := ?_) #[t_, t_, t_, f_, t_, t_, t_, f_, f_, f_, f_, f_, f_, f_, f_, f_, f_] rfl rfl (any_of HT_.out (by kernel_rfl)) (fun _ _ _ h => h) (Or.inl ⟨by rfl, ?_⟩) ?_ ?_
                     rotate_left
                     ·intro w'; go_simp
                      with_reducible rfl
                     rotate_left
                     ·simp only [Act.put, List.setIfInBounds_toArray, List.set_cons_zero, List.set_cons_succ, i64_w, i32_w]
                      rfl
                     refine pure_ (i := 7) (N := some 68) (v := ?_) (a' := ?_) #[t_, t_, t_, f_, t_, t_, t_, t_, f_, f_, f_, f_, f_, f_, f_, f_, f_] rfl rfl (any_of HT_.out (by kernel_rfl)) (fun _ _ _ h => h) (Or.inl ⟨by rfl, ?_⟩) ?_ ?_
                     rotate_left
                     ·intro w'; go_simp
                      with_reducible rfl
                     rotate_left
                     ·simp only [Act.put, List.setIfInBounds_toArray, List.set_cons_zero, List.set_cons_succ, i64_w, i32_w]
                      rfl
                     refine pure_ (i := 8) (N := some 69) (v := ?_) (a' := ?_) #[t_, t_, t_, f_, t_, t_, t_, t_, t_, f_, f_, f_, f_, f_, f_, f_, f_] rfl rfl (any_of HT_.out (by kernel_rfl)) (fun _ _ _ h => h) (Or.inl ⟨by rfl, ?_⟩) ?_ ?_
                     rotate_left
                     ·intro w'; go_simp
                      with_reducible rfl
                     rotate_left
                     ·simp only [Act.put, List.setIfInBounds_toArray, List.set_cons_zero, List.set_cons_succ, i64_w, i32_w]
                      rfl
                     refine pure_ (i := 10) (N := some 71) (v := ?_) (a' := ?_) #[t_, t_, t_, f_, t_, t_, t_, t_, t_, f_, t_, f_, f_, f_, f_, f_, f_] rfl rfl (any_of HT_.out (by kernel_rfl)) (fun _ _ _ h => h) (Or.inl ⟨by rfl, ?_⟩) ?_ ?_
                     rotate_left
                     ·intro w'; go_simp
                      with_reducible rfl
                     rotate_left
                     ·simp only [Act.put, List.setIfInBounds_toArray, List.set_cons_zero, List.set_cons_succ, i64_w, i32_w]
                      rfl
                     refine pure_ (i := 11) (N := some 72) (v := ?_) (a' := ?_) #[t_, t_, t_, f_, t_, t_, t_, t_, t_, f_, t_, t_, f_, f_, f_, f_, f_] rfl rfl (any_of HT_.out (by kernel_rfl)) (fun _ _ _ h => h) (Or.inl ⟨by rfl, ?_⟩) ?_ ?_
                     rotate_left
                     ·intro w'; go_simp
                      with_reducible rfl
                     rotate_left
                     ·simp only [Act.put, List.setIfInBounds_toArray, List.set_cons_zero, List.set_cons_succ, i64_w, i32_w]
                      rfl
                     refine take_ (i := 3) (N := some 64) (v := ?_) (a' := ?_) #[t_, t_, t_, t_, t_, t_, t_, t_, t_, f_, t_, t_, f_, f_, f_, f_, f_] rfl rfl (take_ofW HT_.out HW_.out (by kernel_rfl)) (fun _ _ _ h => h) (Or.inl ⟨by rfl, ?_⟩) hHeld ?_ ?_
                     rotate_left
                     ·rintro w' ⟨s0, s1, s2⟩; go_simp
                      with_reducible rfl
                     rotate_left
                     ·simp only [Act.put, List.setIfInBounds_toArray, List.set_cons_zero, List.set_cons_succ, i64_w, i32_w]
                      rfl
                     refine take_ (i := 9) (N := some 70) (v := ?_) (a' := ?_) #[t_, t_, t_, t_, t_, t_, t_, t_, t_, t_, t_, t_, f_, f_, f_, f_, f_] rfl rfl (take_ofW HT_.out HW_.out (by kernel_rfl)) (fun _ _ _ h => h) (Or.inl ⟨by rfl, ?_⟩) hHeld ?_ ?_
                     rotate_left
                     ·rintro w' ⟨s0, s1, s2⟩; go_simp
                      with_reducible rfl
                     rotate_left
                     ·simp only [Act.put, List.setIfInBounds_toArray, List.set_cons_zero, List.set_cons_succ, i64_w, i32_w]
                      rfl
                     refine pure_ (i := 12) (N := some 73) (v := ?_) (a' := ?_) #[t_, t_, t_, t_, t_, t_, t_, t_, t_, t_, t_, t_, t_, f_, f_, f_, f_] rfl rfl (any_of HT_.out (by kernel_rfl)) (fun _ _ _ h => h) (Or.inl ⟨by rfl, ?_⟩) ?_ ?_
                     rotate_left
                     ·intro w'; go_simp
                      with_reducible rfl
                     rotate_left
                     ·simp only [Act.put, List.setIfInBounds_toArray, List.set_cons_zero, List.set_cons_succ, i64_w, i32_w]
                      rfl
                     refine take_ (i := 13) (N := some 74) (v := ?_) (a' := ?_) #[t_, t_, t_, t_, t_, t_, t_, t_, t_, t_, t_, t_, t_, t_, f_, f_, f_] rfl rfl (take_ofW HT_.out HW_.out (by kernel_rfl)) (fun _ _ _ h => h) (Or.inl ⟨by rfl, ?_⟩) hHeld ?_ ?_
                     rotate_left
                     ·rintro w' ⟨s0, s1, s2⟩; go_simp
                      with_reducible rfl
                     rotate_left
                     ·simp only [Act.put, List.setIfInBounds_toArray, List.set_cons_zero, List.set_cons_succ, i64_w, i32_w]
                      rfl
                     refine pure_ (i := 14) (N := some 75) (v := ?_) (a' := ?_) #[t_, t_, t_, t_, t_, t_, t_, t_, t_, t_, t_, t_, t_, t_, t_, f_, f_] rfl rfl (any_of HT_.out (by kernel_rfl)) (fun _ _ _ h => h) (Or.inl ⟨by rfl, ?_⟩) ?_ ?_
                     rotate_left
                     ·intro w'; go_simp
                      with_reducible rfl
                     rotate_left
                     ·simp only [Act.put, List.setIfInBounds_toArray, List.set_cons_zero, List.set_cons_succ, i64_w, i32_w]
                      rfl
                     refine pure_ (i := 15) (N := some 76) (v := ?_) (a' := ?_) #[t_, t_, t_, t_, t_, t_, t_, t_, t_, t_, t_, t_, t_, t_, t_, t_, f_] rfl rfl (any_of HT_.out (by kernel_rfl)) (fun _ _ _ h => h) (Or.inl ⟨by rfl, ?_⟩) ?_ ?_
                     rotate_left
                     ·intro w'; go_simp
                      with_reducible rfl
                     rotate_left
                     ·simp only [Act.put, List.setIfInBounds_toArray, List.set_cons_zero, List.set_cons_succ, i64_w, i32_w]
                      rfl
                     refine last_ (i := 16) (N := none) #[t_, t_, t_, t_, t_, t_, t_, t_, t_, t_, t_, t_, t_, t_, t_, t_, t_] rfl rfl (one_of HT_.out (by kernel_rfl)) (by decide) (fun K hK => ?_); refine skip_ (w1 := ?_) (by rfl) rfl ?_ ?_
                     rotate_left
                     ·go_simp
                      rfl
                     refine hK.out _ _ ?_; clear hK K; refine done_ (done_of HT_.out (by kernel_rfl)) ?_; (try go_wp2); go_roundg k3
                     case measure => have := HK1.out; have := HK2.out; have := HK3.out; omega
                     case rel => exact ⟨(y292), (wrap64 (x8_3 - 1)), (by first | rfl | (simp; done) | (simp [*]; done)), H', ⟨by have := HK1.out; have := HK2.out; have := HK3.out; omega⟩, ⟨by (with_reducible repeat (first | apply Kd.S_alloc | apply Kd.S_drewN | apply Kd.S_drew)); exact HQ33.out⟩, ⟨by repeat (first | (with_reducible first | exact HB.out | apply below_alloc | apply pw_below_drewN | apply below_drew1 | refine below_set ?_ GB29.out) | exact HB.out)⟩⟩
                    ·rw [if_neg c28] at H; exact absurd H (by simp)
                   ·rw [if_neg c27] at H; exact absurd H (by simp)
                  ·rw [if_neg c26] at H; exact absurd H (by simp)
                 ·rw [if_neg c24] at H; exact absurd H (by simp)
                ·rw [if_neg c23] at H; exact absurd H (by simp)
               ·rw [if_neg c21] at H; exact absurd H (by simp)
              ·rw [if_neg c20] at H; have c20b0 : ((rdOf ByteArray.empty l0 x7_2).toList == (rdOf ByteArray.empty l1 x8_3).toList) = false := beq_eq_false_iff_ne.mpr c20; have c20b1 : ((rdOf ByteArray.empty l0 x7_2).toList != (rdOf ByteArray.empty l1 x8_3).toList) = true := bne_iff_ne.mpr c20; obtain ⟨ji35, hji35⟩ : ∃ j_ : Int, (wrap64 (x7_2 + 1)) = j_ := ⟨_, rfl⟩; (replace H : (if 0 ≤ (ji35) then (if (ji35) < (x5_3.length : Int) then (if x8_3 < ((rd_L7 x5_3 (ji35)).length : Int) then (if x7_2 < (x5_3.length : Int) then (if 0 ≤ (wrap64 (x8_3 + 1)) then (if (wrap64 (x8_3 + 1)) < ((rd_L7 x5_3 x7_2).length : Int) then (if (rd (rd_L7 x5_3 (ji35)) x8_3) ≥ (rd (rd_L7 x5_3 x7_2) (wrap64 (x8_3 + 1))) then (if x8_3 < ((rd_L7 x5_3 x7_2).length : Int) then (spec_l1Table.l2 k3 l0 l1 (x5_3.set (x7_2 : Int).toNat ((rd_L7 x5_3 x7_2).set (x8_3 : Int).toNat (rd (rd_L7 x5_3 (ji35)) x8_3))) x7_2 (wrap64 (x8_3 - 1))) else (none)) else (if x8_3 < ((rd_L7 x5_3 x7_2).length : Int) then (spec_l1Table.l2 k3 l0 l1 (x5_3.set (x7_2 : Int).toNat ((rd_L7 x5_3 x7_2).set (x8_3 : Int).toNat (rd (rd_L7 x5_3 x7_2) (wrap64 (x8_3 + 1))))) x7_2 (wrap64 (x8_3 - 1))) else (none))) else (none)) else (none)) else (none)) else (none)) else (none)) else (none)) = some r := by first | (rw [hji35] at H; exact H) | (simp only [hji35] at H ⊢; exact H)); have hji35w : (IntKind.i64.wrap (x7_2 + 1)) = ji35 := (i64_w _).trans hji35; by_cases c36 : 0 ≤ (ji35)
               ·rw [if_pos c36] at H; have c36b0 : decide (0 ≤ (ji35)) = true := decide_eq_true c36; clear c36; by_cases c37 : (ji35) < (x5_3.length : Int)
                ·rw [if_pos c37] at H; have c37b0 : decide ((ji35) < (x5_3.length : Int)) = true := decide_eq_true c37; clear c37; by_cases c38 : x8_3 < ((rd_L7 x5_3 (ji35)).length : Int)
                 ·rw [if_pos c38] at H; have c38b0 : decide (x8_3 < ((rd_L7 x5_3 (ji35)).length : Int)) = true := decide_eq_true c38; clear c38; by_cases c39 : x7_2 < (x5_3.length : Int)
                  ·rw [if_pos c39] at H; have c39b0 : decide (x7_2 < (x5_3.length : Int)) = true := decide_eq_true c39; clear c39; obtain ⟨ji40, hji40⟩ : ∃ j_ : Int, (wrap64 (x8_3 + 1)) = j_ := ⟨_, rfl⟩; (replace H : (if 0 ≤ (ji40) then (if (ji40) < ((rd_L7 x5_3 x7_2).length : Int) then (if (rd (rd_L7 x5_3 (ji35)) x8_3) ≥ (rd (rd_L7 x5_3 x7_2) (ji40)) then (if x8_3 < ((rd_L7 x5_3 x7_2).length : Int) then (spec_l1Table.l2 k3 l0 l1 (x5_3.set (x7_2 : Int).toNat ((rd_L7 x5_3 x7_2).set (x8_3 : Int).toNat (rd (rd_L7 x5_3 (ji35)) x8_3))) x7_2 (wrap64 (x8_3 - 1))) else (none)) else (if x8_3 < ((rd_L7 x5_3 x7_2).length : Int) then (spec_l1Table.l2 k3 l0 l1 (x5_3.set (x7_2 : Int).toNat ((rd_L7 x5_3 x7_2).set (x8_3 : Int).toNat (rd (rd_L7 x5_3 x7_2) (ji40)))) x7_2 (wrap64 (x8_3 - 1))) else (none))) else (none)) else (none)) = some r := by first | (rw [hji40] at H; exact H) | (simp only [hji40] at H ⊢; exact H)); have hji40w : (IntKind.i64.wrap (x8_3 + 1)) = ji40 := (i64_w _).trans hji40; by_cases c41 : 0 ≤ (ji40)
                   ·rw [if_pos c41] at H; have c41b0 : decide (0 ≤ (ji40)) = true := decide_eq_true c41; clear c41; by_cases c42 : (ji40) < ((rd_L7 x5_3 x7_2).length : Int)
                    ·rw [if_pos c42] at H; have c42b0 : decide ((ji40) < ((rd_L7 x5_3 x7_2).length : Int)) = true := decide_eq_true c42; clear c42; by_cases c43 : (rd (rd_L7 x5_3 (ji35)) x8_3) ≥ (rd (rd_L7 x5_3 x7_2) (ji40))
                     ·rw [if_pos c43] at H; have c43b0 : decide ((rd (rd_L7 x5_3 x7_2) (ji40)) ≤ (rd (rd_L7 x5_3 (ji35)) x8_3)) = true := decide_eq_true c43; clear c43; by_cases c44 : x8_3 < ((rd_L7 x5_3 x7_2).length : Int)
                      ·rw [if_pos c44] at H; have c44b0 : decide (x8_3 < ((rd_L7 x5_3 x7_2).length : Int)) = true := decide_eq_true c44; clear c44; obtain ⟨y300, hy300⟩ : ∃ y_ : List Int, y_ = ((rd_L7 x5_3 x7_2).set (x8_3 : Int).toNat (rd (rd_L7 x5_3 (ji35)) x8_3)) := ⟨_, rfl⟩; (replace H : (spec_l1Table.l2 k3 l0 l1 (x5_3.set (x7_2 : Int).toNat y300) x7_2 (wrap64 (x8_3 - 1))) = some r := by first | (rw [hy300]; with_reducible exact H) | (have H2_ := (Option.bind_some _ _).symm.trans H; rw [hy300]; with_reducible exact H2_) | (have H2_ := (Option.bind_some _ _).symm.trans H; with_reducible exact H2_) | with_reducible exact H | (rw [hy300]; exact H) | exact H); have Ny300 := Aside0.mk hy300; clear hy300; obtain ⟨y302, hy302⟩ : ∃ y_ : List (List Int), y_ = (x5_3.set (x7_2 : Int).toNat y300) := ⟨_, rfl⟩; (replace H : (spec_l1Table.l2 k3 l0 l1 y302 x7_2 (wrap64 (x8_3 - 1))) = some r := by first | (rw [hy302]; with_reducible exact H) | (have H2_ := (Option.bind_some _ _).symm.trans H; rw [hy302]; with_reducible exact H2_) | (have H2_ := (Option.bind_some _ _).symm.trans H; with_reducible exact H2_) | with_reducible exact H | (rw [hy302]; exact H) | exact H); have Ny302 := Aside0.mk hy302; clear hy302; have H' := Aside0.mk H; clear H; (try go_wp2); have n0_ := Aside0.mk (Kd.S_drew HO_5.out); have n1_ := Aside0.mk (below_drew1 HB.out); clear HO_5; clear HB; have HO_5 := n0_; have HB := n1_; clear n0_ n1_; have p285 : 0 ≤ (x7_2 : Int) := of_decide_eq_true (by assumption); have q285 : x7_2 < (l0.length : Int) := of_decide_eq_true (by assumption); obtain ⟨ad285, e285, hx285_0⟩ := Kd.at_string HR0.out x7_2 p285 q285; have hw285_0 := hx285_0; cases e285; replace hx285_0 := (HB.out.cell (World.block_lt_of_cell? w _ hx285_0)).trans hx285_0; replace p285 := eq_true p285; replace q285 := eq_true q285; have p286 : 0 ≤ (x8_3 : Int) := of_decide_eq_true (by assumption); have q286 : x8_3 < (l1.length : Int) := of_decide_eq_true (by assumption); obtain ⟨ad286, e286, hx286_0⟩ := Kd.at_string HR1.out x8_3 p286 q286; have hw286_0 := hx286_0; cases e286; replace hx286_0 := (HB.out.cell (World.block_lt_of_cell? w _ hx286_0)).trans hx286_0; replace p286 := eq_true p286; replace q286 := eq_true q286; refine start_ (n := 10) (S := fun w' => w'.cell? (ad285.add (x7_2).toNat) = some (.string (rdOf ByteArray.empty l0 x7_2)) ∧ w'.cell? (ad286.add (x8_3).toNat) = some (.string (rdOf ByteArray.empty l1 x8_3))) (ds := []) #[f_, f_, f_, f_, f_, f_, f_, f_, f_, f_] (by kernel_rfl) rfl rfl ⟨((HB.out.cell (World.block_lt_of_cell? w _ hw285_0)).trans hw285_0), ((HB.out.cell (World.block_lt_of_cell? w _ hw286_0)).trans hw286_0)⟩ (fun hHeld => ?_); refine with_tabW spec_l1Table.tab13 spec_l1Table.bits13 (fun HT_ HW_ => ?_); generalize wr.drew = w46 at HO_5 HB hx285_0 hx286_0 hHeld ⊢; refine pure_ (i := 0) (N := some 52) (v := ?_) (a' := ?_) #[t_, f_, f_, f_, f_, f_, f_, f_, f_, f_] rfl rfl (any_of HT_.out (by kernel_rfl)) (fun _ _ _ h => h) (Or.inl ⟨by rfl, ?_⟩) ?_ ?_
                       rotate_left
                       ·intro w'; go_simp
                        with_reducible rfl
                       rotate_left
                       ·simp only [Act.put, List.setIfInBounds_toArray, List.set_cons_zero, List.set_cons_succ, i64_w, i32_w]
                        rfl
                       refine pure_ (i := 1) (N := some 53) (v := ?_) (a' := ?_) #[t_, t_, f_, f_, f_, f_, f_, f_, f_, f_] rfl rfl (any_of HT_.out (by kernel_rfl)) (fun _ _ _ h => h) (Or.inl ⟨by rfl, ?_⟩) ?_ ?_
                       rotate_left
                       ·intro w'; go_simp
                        with_reducible rfl
                       rotate_left
                       ·simp only [Act.put, List.setIfInBounds_toArray, List.set_cons_zero, List.set_cons_succ, i64_w, i32_w]
                        rfl
                       refine pure_ (i := 2) (N := some 54) (v := ?_) (a' := ?_) #[t_, t_, t_, f_, f_, f_, f_, f_, f_, f_] rfl rfl (any_of HT_.out (by kernel_rfl)) (fun _ _ _ h => h) (Or.inl ⟨by rfl, ?_⟩) ?_ ?_
                       rotate_left
                       ·intro w'; go_simp
                        with_reducible rfl
                       rotate_left
                       ·simp only [Act.put, List.setIfInBounds_toArray, List.set_cons_zero, List.set_cons_succ, i64_w, i32_w]
                        rfl
                       refine pure_ (i := 4) (N := some 56) (v := ?_) (a' := ?_) #[t_, t_, t_, f_, t_, f_, f_, f_, f_, f_] rfl rfl (any_of HT_.out (by kernel_rfl)) (fun _ _ _ h => h) (Or.inl ⟨by rfl, ?_⟩) ?_ ?_
                       rotate_left
                       ·intro w'; go_simp
                        with_reducible rfl
                       rotate_left
                       ·simp only [Act.put, List.setIfInBounds_toArray, List.set_cons_zero, List.set_cons_succ, i64_w, i32_w]
                        rfl
                       refine pure_ (i := 5) (N := some 57) (v := ?_) (a' := ?_) #[t_, t_, t_, f_, t_, t_, f_, f_, f_, f_] rfl rfl (any_of HT_.out (by kernel_rfl)) (fun _ _ _ h => h) (Or.inl ⟨by rfl, ?_⟩) ?_ ?_
                       rotate_left
                       ·intro w'; go_simp
                        with_reducible rfl
                       rotate_left
                       ·simp only [Act.put, List.setIfInBounds_toArray, List.set_cons_zero, List.set_cons_succ, i64_w, i32_w]
                        rfl
                       refine pure_ (i := 6) (N := some 58) (v := ?_) (a' := ?_) #[t_, t_, t_, f_, t_, t_, t_, f_, f_, f_] rfl rfl (any_of HT_.out (by kernel_rfl)) (fun _ _ _ h => h) (Or.inl ⟨by rfl, ?_⟩) ?_ ?_
                       rotate_left
                       ·intro w'; go_simp
                        with_reducible rfl
                       rotate_left
                       ·simp only [Act.put, List.setIfInBounds_toArray, List.set_cons_zero, List.set_cons_succ, i64_w, i32_w]
                        rfl
                       refine take_ (i := 3) (N := some 55) (v := ?_) (a' := ?_) #[t_, t_, t_, t_, t_, t_, t_, f_, f_, f_] rfl rfl (take_ofW HT_.out HW_.out (by kernel_rfl)) (fun _ _ _ h => h) (Or.inl ⟨by rfl, ?_⟩) hHeld ?_ ?_
                       rotate_left
                       ·rintro w' ⟨s0, s1⟩; go_simp
                        with_reducible rfl
                       rotate_left
                       ·simp only [Act.put, List.setIfInBounds_toArray, List.set_cons_zero, List.set_cons_succ, i64_w, i32_w]
                        rfl
                       refine take_ (i := 7) (N := some 59) (v := ?_) (a' := ?_) #[t_, t_, t_, t_, t_, t_, t_, t_, f_, f_] rfl rfl (take_ofW HT_.out HW_.out (by kernel_rfl)) (fun _ _ _ h => h) (Or.inl ⟨by rfl, ?_⟩) hHeld ?_ ?_
                       rotate_left
                       ·rintro w' ⟨s0, s1⟩; go_simp
                        with_reducible rfl
                       rotate_left
                       ·simp only [Act.put, List.setIfInBounds_toArray, List.set_cons_zero, List.set_cons_succ, i64_w, i32_w]
                        rfl
                       refine pure_ (i := 8) (N := some 60) (v := ?_) (a' := ?_) #[t_, t_, t_, t_, t_, t_, t_, t_, t_, f_] rfl rfl (any_of HT_.out (by kernel_rfl)) (fun _ _ _ h => h) (Or.inl ⟨by rfl, ?_⟩) ?_ ?_
                       rotate_left
                       ·intro w'; go_simp
                        with_reducible rfl
                       rotate_left
                       ·simp only [Act.put, List.setIfInBounds_toArray, List.set_cons_zero, List.set_cons_succ, i64_w, i32_w]
                        rfl
                       refine pure_ (i := 9) (N := some 51) (v := ?_) (a' := ?_) #[t_, t_, t_, t_, t_, t_, t_, t_, t_, t_] rfl rfl (any_of HT_.out (by kernel_rfl)) (fun _ _ _ h => h) (Or.inl ⟨by rfl, ?_⟩) ?_ ?_
                       rotate_left
                       ·intro w'; go_simp
                        with_reducible rfl
                       rotate_left
                       ·simp only [Act.put, List.setIfInBounds_toArray, List.set_cons_zero, List.set_cons_succ, i64_w, i32_w]
                        rfl
                       refine done_ (done_of HT_.out (by kernel_rfl)) ?_; (try go_wp2); have n0_ := Aside0.mk (Kd.S_drew HO_5.out); have n1_ := Aside0.mk (below_drew1 HB.out); clear HO_5; clear HB; have HO_5 := n0_; have HB := n1_; clear n0_ n1_; obtain ⟨Ao48, co48, eo48⟩ := Kd.S_slice HO_5.out
                       (first | subst eo48 | (injection eo48 with f1_ f2_ f3_; have f4_ := f1_.symm; have f5_ := f3_.symm; clear f1_ f2_ f3_; subst f4_; subst f5_))
                       have p293 : 0 ≤ ((ji35) : Int) := of_decide_eq_true (by assumption); have q293 : (ji35) < (x5_3.length : Int) := of_decide_eq_true (by assumption); obtain ⟨ad293, A293_0, c293_0, e293, hx293_0, hl293_0, hi293_0⟩ := at_L7 (Kd.S_reads' HO_5.out).2.2 (ji35) p293 q293; cases e293; obtain ⟨ce293, hce293, hMe293, hcc293⟩ := Kd.S_get HO_5.out [] (ji35) p293 (by first | exact q293 | exact of_decide_eq_true (by assumption) | (have e_ := (Kd.S_reads' HO_5.out).1; omega)); obtain ⟨ve293_0, rfl, ge293_0⟩ := hMe293; have hv293_0 := hcc293 0 _ rfl; rw [Nat.add_zero, show ((Kd.slice 3 (Kd.int .i64))).sz = 1 from rfl, Nat.mul_one] at hv293_0; replace hv293_0 := Option.some.inj (hv293_0.symm.trans hx293_0); rw [hv293_0] at ge293_0; have HL293_0 := Aside0.mk (show Kd.R (Kd.int .i64) 3 _ _ _ _ (rd_L7 x5_3 (ji35)) from ge293_0); clear hv293_0 ge293_0; have HX293_0 := Aside0.mk hx293_0; clear hcc293 hce293; have HR293_0 := Aside0.mk hi293_0; have HC293_0 := Aside0.mk hl293_0; clear hi293_0 hl293_0; replace p293 := eq_true p293; replace q293 := eq_true q293; have p294 : 0 ≤ (x8_3 : Int) := of_decide_eq_true (by assumption); have q294 : x8_3 < ((rd_L7 x5_3 (ji35)).length : Int) := of_decide_eq_true (by assumption); obtain ⟨ad294, e294, hx294_0⟩ := Kd.at_int (by repeat (first | (with_reducible exact HR293_0.out) | (with_reducible refine Kd.C_alloc ?_ _) | (with_reducible refine Kd.C_drewN ?_ _) | (with_reducible refine Kd.C_drew ?_) | exact HR293_0.out)) x8_3 p294 q294; cases e294; replace p294 := eq_true p294; replace q294 := eq_true q294; have p295 : 0 ≤ (x7_2 : Int) := of_decide_eq_true (by assumption); have q295 : x7_2 < (x5_3.length : Int) := of_decide_eq_true (by assumption); obtain ⟨ad295, A295_0, c295_0, e295, hx295_0, hl295_0, hi295_0⟩ := at_L7 (Kd.S_reads' HO_5.out).2.2 x7_2 p295 q295; obtain rfl : ad293 = ad295 := (by injection e295); obtain ⟨ce295, hce295, hMe295, hcc295⟩ := Kd.S_get HO_5.out [] x7_2 p295 (by first | exact q295 | exact of_decide_eq_true (by assumption) | (have e_ := (Kd.S_reads' HO_5.out).1; omega)); obtain ⟨ve295_0, rfl, ge295_0⟩ := hMe295; have hv295_0 := hcc295 0 _ rfl; rw [Nat.add_zero, show ((Kd.slice 3 (Kd.int .i64))).sz = 1 from rfl, Nat.mul_one] at hv295_0; replace hv295_0 := Option.some.inj (hv295_0.symm.trans hx295_0); rw [hv295_0] at ge295_0; have HL295_0 := Aside0.mk (show Kd.R (Kd.int .i64) 3 _ _ _ _ (rd_L7 x5_3 x7_2) from ge295_0); clear hv295_0 ge295_0; have HX295_0 := Aside0.mk hx295_0; clear hcc295 hce295; have HR295_0 := Aside0.mk hi295_0; have HC295_0 := Aside0.mk hl295_0; clear hi295_0 hl295_0; replace p295 := eq_true p295; replace q295 := eq_true q295; have p296 : 0 ≤ ((ji40) : Int) := of_decide_eq_true (by assumption); have q296 : (ji40) < ((rd_L7 x5_3 x7_2).length : Int) := of_decide_eq_true (by assumption); obtain ⟨ad296, e296, hx296_0⟩ := Kd.at_int (by repeat (first | (with_reducible exact HR295_0.out) | (with_reducible refine Kd.C_alloc ?_ _) | (with_reducible refine Kd.C_drewN ?_ _) | (with_reducible refine Kd.C_drew ?_) | exact HR295_0.out)) (ji40) p296 q296
                       cases e296; replace p296 := eq_true p296; replace q296 := eq_true q296; refine start_ (n := 18) (S := fun w' => w'.cell? (ad293.add ((ji35)).toNat) = some (.slice (some ad294) (rd_L7 x5_3 (ji35)).length c293_0) ∧ w'.cell? (ad294.add (x8_3).toNat) = some (.int .i64 (rd (rd_L7 x5_3 (ji35)) x8_3)) ∧ w'.cell? (ad293.add (x7_2).toNat) = some (.slice (some ad296) (rd_L7 x5_3 x7_2).length c295_0) ∧ w'.cell? (ad296.add ((ji40)).toNat) = some (.int .i64 (rd (rd_L7 x5_3 x7_2) (ji40)))) (ds := []) #[f_, f_, f_, f_, f_, f_, f_, f_, f_, f_, f_, f_, f_, f_, f_, f_, f_, f_] (by kernel_rfl) rfl rfl ⟨hx293_0, hx294_0, hx295_0, hx296_0⟩ (fun hHeld => ?_); refine with_tabW spec_l1Table.tab15 spec_l1Table.bits15 (fun HT_ HW_ => ?_); generalize w46.drew = w47 at HO_5 HB HL293_0 HL295_0 HR293_0 HR295_0 HX293_0 HX295_0 hx293_0 hx294_0 hx295_0 hx296_0 hHeld ⊢; refine pure_ (i := 0) (N := some 78) (v := ?_) (a' := ?_) #[t_, f_, f_, f_, f_, f_, f_, f_, f_, f_, f_, f_, f_, f_, f_, f_, f_, f_] rfl rfl (any_of HT_.out (by kernel_rfl)) (fun _ _ _ h => h) (Or.inl ⟨by rfl, ?_⟩) ?_ ?_
                       rotate_left
                       ·intro w'; go_simp
                        with_reducible rfl
                       rotate_left
                       ·simp only [Act.put, List.setIfInBounds_toArray, List.set_cons_zero, List.set_cons_succ, i64_w, i32_w]
                        rfl
                       refine pure_ (i := 1) (N := some 79) (v := ?_) (a' := ?_) #[t_, t_, f_, f_, f_, f_, f_, f_, f_, f_, f_, f_, f_, f_, f_, f_, f_, f_] rfl rfl (any_of HT_.out (by kernel_rfl)) (fun _ _ _ h => h) (Or.inl ⟨by rfl, ?_⟩) ?_ ?_
                       rotate_left
                       ·intro w'; go_simp
                        with_reducible rfl
                       rotate_left
                       ·simp only [Act.put, List.setIfInBounds_toArray, List.set_cons_zero, List.set_cons_succ, i64_w, i32_w]
                        rfl
                       refine pure_ (i := 2) (N := some 80) (v := ?_) (a' := ?_) #[t_, t_, t_, f_, f_, f_, f_, f_, f_, f_, f_, f_, f_, f_, f_, f_, f_, f_] rfl rfl (any_of HT_.out (by kernel_rfl)) (fun _ _ _ h => h) (Or.inl ⟨by rfl, ?_⟩) ?_ ?_
                       rotate_left
                       ·intro w'; go_simp
                        with_reducible rfl
                       rotate_left
                       ·simp only [Act.put, List.setIfInBounds_toArray, List.set_cons_zero, List.set_cons_succ, i64_w, i32_w]
                        rfl
                       refine pure_ (i := 3) (N := some 81) (v := ?_) (a' := ?_) #[t_, t_, t_, t_, f_, f_, f_, f_, f_, f_, f_, f_, f_, f_, f_, f_, f_, f_] rfl rfl (any_of HT_.out (by kernel_rfl)) (fun _ _ _ h => h) (Or.inl ⟨by rfl, ?_⟩) ?_ ?_
                       rotate_left
                       ·intro w'; go_simp
                        with_reducible rfl
                       rotate_left
                       ·simp only [Act.put, List.setIfInBounds_toArray, List.set_cons_zero, List.set_cons_succ, i64_w, i32_w]
                        rfl
                       refine pure_ (i := 5) (N := some 83) (v := ?_) (a' := ?_) #[t_, t_, t_, t_, f_, t_, f_, f_, f_, f_, f_, f_, f_, f_, f_, f_, f_, f_] rfl rfl (any_of HT_.out (by kernel_rfl)) (fun _ _ _ h => h) (Or.inl ⟨by rfl, ?_⟩) ?_ ?_
                       rotate_left
                       ·intro w'; go_simp
                        with_reducible rfl
                       rotate_left
                       ·simp only [Act.put, List.setIfInBounds_toArray, List.set_cons_zero, List.set_cons_succ, i64_w, i32_w]
                        rfl
                       refine pure_ (i := 8) (N := some 86) (v := ?_) (a' := ?_) #[t_, t_, t_, t_, f_, t_, f_, f_, t_, f_, f_, f_, f_, f_, f_, f_, f_, f_] rfl rfl (any_of HT_.out (by kernel_rfl)) (fun _ _ _ h => h) (Or.inl ⟨by rfl, ?_⟩) ?_ ?_
                       rotate_left
                       ·intro w'; go_simp
                        with_reducible rfl
                       rotate_left
                       ·simp only [Act.put, List.setIfInBounds_toArray, List.set_cons_zero, List.set_cons_succ, i64_w, i32_w]
                        rfl
                       refine pure_ (i := 9) (N := some 87) (v := ?_) (a' := ?_) #[t_, t_, t_, t_, f_, t_, f_, f_, t_, t_, f_, f_, f_, f_, f_, f_, f_, f_] rfl rfl (any_of HT_.out (by kernel_rfl)) (fun _ _ _ h => h) (Or.inl ⟨by rfl, ?_⟩) ?_ ?_
                       rotate_left
                       ·intro w'; go_simp
                        with_reducible rfl
                       rotate_left
                       ·simp only [Act.put, List.setIfInBounds_toArray, List.set_cons_zero, List.set_cons_succ, i64_w, i32_w]
                        rfl
                       refine pure_ (i := 10) (N := some 88) (v := ?_) (a' := ?_) #[t_, t_, t_, t_, f_, t_, f_, f_, t_, t_, t_, f_, f_, f_, f_, f_, f_, f_] rfl rfl (any_of HT_.out (by kernel_rfl)) (fun _ _ _ h => h) (Or.inl ⟨by rfl, ?_⟩) ?_ ?_
                       rotate_left
                       ·intro w'; go_simp
                        with_reducible rfl
                       rotate_left
                       ·simp only [Act.put, List.setIfInBounds_toArray, List.set_cons_zero, List.set_cons_succ, i64_w, i32_w]
                        rfl
                       refine pure_ (i := 12) (N := some 90) (v := ?_) (a' := ?_) #[t_, t_, t_, t_, f_, t_, f_, f_, t_, t_, t_, f_, t_, f_, f_, f_, f_, f_] rfl rfl (any_of HT_.out (by kernel_rfl)) (fun _ _ _ h => h) (Or.inl ⟨by rfl, ?_⟩) ?_ ?_
                       rotate_left
                       ·intro w'; go_simp
                        with_reducible rfl
                       rotate_left
                       ·simp only [Act.put, List.setIfInBounds_toArray, List.set_cons_zero, List.set_cons_succ, i64_w, i32_w]
                        rfl
                       refine pure_ (i := 13) (N := some 91) (v := ?_) (a' := ?_) #[t_, t_, t_, t_, f_, t_, f_, f_, t_, t_, t_, f_, t_, t_, f_, f_, f_, f_] rfl rfl (any_of HT_.out (by kernel_rfl)) (fun _ _ _ h => h) (Or.inl ⟨by rfl, ?_⟩) ?_ ?_
                       rotate_left
                       ·intro w'; go_simp
                        with_reducible rfl
                       rotate_left
                       ·simp only [Act.put, List.setIfInBounds_toArray, List.set_cons_zero, List.set_cons_succ, i64_w, i32_w]
                        rfl
                       refine take_ (i := 4) (N := some 82) (v := ?_) (a' := ?_) #[t_, t_, t_, t_, t_, t_, f_, f_, t_, t_, t_, f_, t_, t_, f_, f_, f_, f_] rfl rfl (take_ofW HT_.out HW_.out (by kernel_rfl)) (fun _ _ _ h => h) (Or.inl ⟨by rfl, ?_⟩) hHeld ?_ ?_
                       rotate_left
                       ·rintro w' ⟨s0, s1, s2, s3⟩; go_simp
                        with_reducible rfl
                       rotate_left
                       ·simp only [Act.put, List.setIfInBounds_toArray, List.set_cons_zero, List.set_cons_succ, i64_w, i32_w]
                        rfl
                       refine pure_ (i := 6) (N := some 84) (v := ?_) (a' := ?_) #[t_, t_, t_, t_, t_, t_, t_, f_, t_, t_, t_, f_, t_, t_, f_, f_, f_, f_] rfl rfl (any_of HT_.out (by kernel_rfl)) (fun _ _ _ h => h) (Or.inl ⟨by rfl, ?_⟩) ?_ ?_
                       rotate_left
                       ·intro w'; go_simp
                        with_reducible rfl
                       rotate_left
                       ·simp only [Act.put, List.setIfInBounds_toArray, List.set_cons_zero, List.set_cons_succ, i64_w, i32_w]
                        rfl
                       refine take_ (i := 7) (N := some 85) (v := ?_) (a' := ?_) #[t_, t_, t_, t_, t_, t_, t_, t_, t_, t_, t_, f_, t_, t_, f_, f_, f_, f_] rfl rfl (take_ofW HT_.out HW_.out (by kernel_rfl)) (fun _ _ _ h => h) (Or.inl ⟨by rfl, ?_⟩) hHeld ?_ ?_
                       rotate_left
                       ·rintro w' ⟨s0, s1, s2, s3⟩; go_simp
                        with_reducible rfl
                       rotate_left
                       ·simp only [Act.put, List.setIfInBounds_toArray, List.set_cons_zero, List.set_cons_succ, i64_w, i32_w]
                        rfl
                       refine take_ (i := 11) (N := some 89) (v := ?_) (a' := ?_) #[t_, t_, t_, t_, t_, t_, t_, t_, t_, t_, t_, t_, t_, t_, f_, f_, f_, f_] rfl rfl (take_ofW HT_.out HW_.out (by kernel_rfl)) (fun _ _ _ h => h) (Or.inl ⟨by rfl, ?_⟩) hHeld ?_ ?_
                       rotate_left
                       ·rintro w' ⟨s0, s1, s2, s3⟩; go_simp
                        with_reducible rfl
                       rotate_left
                       ·simp only [Act.put, List.setIfInBounds_toArray, List.set_cons_zero, List.set_cons_succ, i64_w, i32_w]
                        rfl
                       refine pure_ (i := 14) (N := some 92) (v := ?_) (a' := ?_) #[t_, t_, t_, t_, t_, t_, t_, t_, t_, t_, t_, t_, t_, t_, t_, f_, f_, f_] rfl rfl (any_of HT_.out (by kernel_rfl)) (fun _ _ _ h => h) (Or.inl ⟨by rfl, ?_⟩) ?_ ?_
                       rotate_left
                       ·intro w'; go_simp
                        with_reducible rfl
                       rotate_left
                       ·simp only [Act.put, List.setIfInBounds_toArray, List.set_cons_zero, List.set_cons_succ, i64_w, i32_w]
                        rfl
                       refine take_ (i := 15) (N := some 93) (v := ?_) (a' := ?_) #[t_, t_, t_, t_, t_, t_, t_, t_, t_, t_, t_, t_, t_, t_, t_, t_, f_, f_] rfl rfl (take_ofW HT_.out HW_.out (by kernel_rfl)) (fun _ _ _ h => h) (Or.inl ⟨by rfl, ?_⟩) hHeld ?_ ?_
                       rotate_left
                       ·rintro w' ⟨s0, s1, s2, s3⟩; go_simp
                        with_reducible rfl
                       rotate_left
                       ·simp only [Act.put, List.setIfInBounds_toArray, List.set_cons_zero, List.set_cons_succ, i64_w, i32_w]
                        rfl
                       refine pure_ (i := 16) (N := some 94) (v := ?_) (a' := ?_) #[t_, t_, t_, t_, t_, t_, t_, t_, t_, t_, t_, t_, t_, t_, t_, t_, t_, f_] rfl rfl (any_of HT_.out (by kernel_rfl)) (fun _ _ _ h => h) (Or.inl ⟨by rfl, ?_⟩) ?_ ?_
                       rotate_left
                       ·intro w'; go_simp
                        with_reducible rfl
                       rotate_left
                       ·simp only [Act.put, List.setIfInBounds_toArray, List.set_cons_zero, List.set_cons_succ, i64_w, i32_w]
                        rfl
                       refine pure_ (i := 17) (N := some 77) (v := ?_) (a' := ?_) #[t_, t_, t_, t_, t_, t_, t_, t_, t_, t_, t_, t_, t_, t_, t_, t_, t_, t_] rfl rfl (any_of HT_.out (by kernel_rfl)) (fun _ _ _ h => h) (Or.inl ⟨by rfl, ?_⟩) ?_ ?_
                       rotate_left
                       ·intro w'; go_simp
                        with_reducible rfl
                       rotate_left
                       ·simp only [Act.put, List.setIfInBounds_toArray, List.set_cons_zero, List.set_cons_succ, i64_w, i32_w]
                        rfl
                       refine done_ (done_of HT_.out (by kernel_rfl)) ?_; (try go_wp2); have n0_ := Aside0.mk (Kd.S_drew HO_5.out); have n1_ := Aside0.mk (Kd.R_drew HL293_0.out); have n2_ := Aside0.mk (Kd.R_drew HL295_0.out); have n3_ := Aside0.mk (Kd.C_drew HR293_0.out); have n4_ := Aside0.mk (Kd.C_drew HR295_0.out); have n5_ := Aside0.mk (below_drew1 HB.out); clear HO_5; clear HL293_0; clear HL295_0; clear HR293_0; clear HR295_0; clear HB; have HO_5 := n0_; have HL293_0 := n1_; have HL295_0 := n2_; have HR293_0 := n3_; have HR295_0 := n4_; have HB := n5_; clear n0_ n1_ n2_ n3_ n4_ n5_; have p297 : 0 ≤ (x7_2 : Int) := of_decide_eq_true (by assumption); have q297 : x7_2 < (x5_3.length : Int) := of_decide_eq_true (by assumption); obtain ⟨ad297, A297_0, c297_0, e297, hx297_0, hl297_0, hi297_0⟩ := at_L7 (Kd.S_reads' HO_5.out).2.2 x7_2 p297 q297; obtain rfl : ad293 = ad297 := (by injection e297); obtain ⟨ce297, hce297, hMe297, hcc297⟩ := Kd.S_get HO_5.out [] x7_2 p297 (by first | exact q297 | exact of_decide_eq_true (by assumption) | (have e_ := (Kd.S_reads' HO_5.out).1; omega)); obtain ⟨ve297_0, rfl, ge297_0⟩ := hMe297; have hv297_0 := hcc297 0 _ rfl; rw [Nat.add_zero, show ((Kd.slice 3 (Kd.int .i64))).sz = 1 from rfl, Nat.mul_one] at hv297_0; replace hv297_0 := Option.some.inj (hv297_0.symm.trans hx297_0); rw [hv297_0] at ge297_0; have HL297_0 := Aside0.mk (show Kd.R (Kd.int .i64) 3 _ _ _ _ (rd_L7 x5_3 x7_2) from ge297_0); clear hv297_0 ge297_0; have HX297_0 := Aside0.mk hx297_0; clear hcc297 hce297; have HR297_0 := Aside0.mk hi297_0; have HC297_0 := Aside0.mk hl297_0; clear hi297_0 hl297_0; replace p297 := eq_true p297; replace q297 := eq_true q297; have p298 : 0 ≤ ((ji35) : Int) := of_decide_eq_true (by assumption); have q298 : (ji35) < (x5_3.length : Int) := of_decide_eq_true (by assumption); obtain ⟨ad298, A298_0, c298_0, e298, hx298_0, hl298_0, hi298_0⟩ := at_L7 (Kd.S_reads' HO_5.out).2.2 (ji35) p298 q298; obtain rfl : ad293 = ad298 := (by injection e298); obtain ⟨ce298, hce298, hMe298, hcc298⟩ := Kd.S_get HO_5.out [] (ji35) p298 (by first | exact q298 | exact of_decide_eq_true (by assumption) | (have e_ := (Kd.S_reads' HO_5.out).1; omega)); obtain ⟨ve298_0, rfl, ge298_0⟩ := hMe298; have hv298_0 := hcc298 0 _ rfl; rw [Nat.add_zero, show ((Kd.slice 3 (Kd.int .i64))).sz = 1 from rfl, Nat.mul_one] at hv298_0; replace hv298_0 := Option.some.inj (hv298_0.symm.trans hx298_0); rw [hv298_0] at ge298_0; have HL298_0 := Aside0.mk (show Kd.R (Kd.int .i64) 3 _ _ _ _ (rd_L7 x5_3 (ji35)) from ge298_0); clear hv298_0 ge298_0; have HX298_0 := Aside0.mk hx298_0; clear hcc298 hce298; have HR298_0 := Aside0.mk hi298_0; have HC298_0 := Aside0.mk hl298_0; clear hi298_0 hl298_0; replace p298 := eq_true p298; replace q298 := eq_true q298; have p299 : 0 ≤ (x8_3 : Int) := of_decide_eq_true (by assumption); have q299 : x8_3 < ((rd_L7 x5_3 (ji35)).length : Int) := of_decide_eq_true (by assumption); obtain ⟨ad299, e299, hx299_0⟩ := Kd.at_int (by repeat (first | (with_reducible exact HR298_0.out) | (with_reducible refine Kd.C_alloc ?_ _) | (with_reducible refine Kd.C_drewN ?_ _) | (with_reducible refine Kd.C_drew ?_) | exact HR298_0.out)) x8_3 p299 q299
                       cases e299; replace p299 := eq_true p299; replace q299 := eq_true q299; have p45 : 0 ≤ (x8_3 : Int) := of_decide_eq_true (by assumption); have q45 : (x8_3 : Int) < (((rd_L7 x5_3 x7_2).length : Int) : Int) := of_decide_eq_true (by assumption); obtain ⟨go45, co45, eo45, gb45, gl45, cl45, HG45⟩ := Kd.R_form HL297_0.out (by omega)
                       (first | cases eo45 | (injection eo45 with ea_ en_ ec_; (first | subst ea_ | (injection ea_ with ea_; subst ea_)); subst ec_; clear en_))
                       have GB45 := Aside0.mk gb45; have GG45 := Aside0.mk HG45; clear gb45 gl45 HG45; obtain ⟨hx45_0, hf45_0⟩ := Kd.R_celln 0 HL297_0.out (x8_3 : Int) p45 q45; replace p45 := eq_true p45; replace q45 := eq_true q45; have hq50 : (x7_2 : Int) < (x5_3.length : Int) := (by have h_ : (x7_2 : Int) < ((x5_3.length : Int) : Int) := of_decide_eq_true (by assumption); first | exact h_ | (have e_ := (Kd.S_reads' HO_5.out).1; omega) | simpa only [List.length_set, List.length_set] using h_); obtain ⟨oki50, ce50, hcl50, hM50, hcc50, hok50, hbk50⟩ := Kd.S_borrow HO_5.out [] (x7_2 : Int) (of_decide_eq_true (by assumption)) hq50; obtain ⟨ve50_0, rfl, ge50_0⟩ := hM50; have hv50 := hcc50 0 _ rfl; rw [Nat.add_zero, show ((Kd.slice 3 (Kd.int .i64))).sz = 1 from rfl, Nat.mul_one] at hv50; replace hv50 := Option.some.inj (hv50.symm.trans HX297_0.out); subst hv50; clear hcc50 hcl50; replace ge50_0 := (show Kd.R (Kd.int .i64) 3 _ _ _ _ (rd_L7 x5_3 x7_2) from ge50_0); have HP50 := Kd.R_putg ge50_0 (x8_3 : Int) (rd (rd_L7 x5_3 (ji35)) x8_3); rw [← Ny300.out] at HP50; have HS50 := hbk50 HP50.2 (fun k_ e_ => by injection e_ with e_; subst e_; exact ge50_0.1 _ rfl) (x' := y300) (Kd.M_row HP50.1); rw [← Ny302.out] at HS50; have HQ50 := Aside0.mk HS50; clear HP50 HS50 hbk50 hok50; refine start_ (n := 15) (S := fun w' => w'.cell? (ad293.add (x7_2).toNat) = some (.slice (some ⟨go45, 0, none⟩) (rd_L7 x5_3 x7_2).length c297_0) ∧ w'.cell? (ad293.add ((ji35)).toNat) = some (.slice (some ad299) (rd_L7 x5_3 (ji35)).length c298_0) ∧ w'.cell? (ad299.add (x8_3).toNat) = some (.int .i64 (rd (rd_L7 x5_3 (ji35)) x8_3))) (ds := [14]) #[f_, f_, f_, f_, f_, f_, f_, f_, f_, f_, f_, f_, f_, f_, f_] (by kernel_rfl) rfl rfl ⟨hx297_0, hx298_0, hx299_0⟩ (fun hHeld => ?_); refine with_tabW spec_l1Table.tab16 spec_l1Table.bits16 (fun HT_ HW_ => ?_); generalize w47.drew = w49 at HO_5 HL293_0 HL295_0 HR293_0 HR295_0 HB GG45 HL297_0 HL298_0 HQ50 HR297_0 HR298_0 HX297_0 HX298_0 hf45_0 hx297_0 hx298_0 hx299_0 hx45_0 hHeld ⊢; refine pure_ (i := 0) (N := some 95) (v := ?_) (a' := ?_) #[t_, f_, f_, f_, f_, f_, f_, f_, f_, f_, f_, f_, f_, f_, f_] rfl rfl (any_of HT_.out (by kernel_rfl)) (fun _ _ _ h => h) (Or.inl ⟨by rfl, ?_⟩) ?_ ?_
                       rotate_left
                       ·intro w'; go_simp
                        with_reducible rfl
                       rotate_left
                       ·simp only [Act.put, List.setIfInBounds_toArray, List.set_cons_zero, List.set_cons_succ, i64_w, i32_w]
                        rfl
                       refine pure_ (i := 1) (N := some 96) (v := ?_) (a' := ?_) #[t_, t_, f_, f_, f_, f_, f_, f_, f_, f_, f_, f_, f_, f_, f_] rfl rfl (any_of HT_.out (by kernel_rfl)) (fun _ _ _ h => h) (Or.inl ⟨by rfl, ?_⟩) ?_ ?_
                       rotate_left
                       ·intro w'; go_simp
                        with_reducible rfl
                       rotate_left
                       ·simp only [Act.put, List.setIfInBounds_toArray, List.set_cons_zero, List.set_cons_succ, i64_w, i32_w]
                        rfl
                       refine pure_ (i := 2) (N := some 97) (v := ?_) (a' := ?_) #[t_, t_, t_, f_, f_, f_, f_, f_, f_, f_, f_, f_, f_, f_, f_] rfl rfl (any_of HT_.out (by kernel_rfl)) (fun _ _ _ h => h) (Or.inl ⟨by rfl, ?_⟩) ?_ ?_
                       rotate_left
                       ·intro w'; go_simp
                        with_reducible rfl
                       rotate_left
                       ·simp only [Act.put, List.setIfInBounds_toArray, List.set_cons_zero, List.set_cons_succ, i64_w, i32_w]
                        rfl
                       refine pure_ (i := 4) (N := some 99) (v := ?_) (a' := ?_) #[t_, t_, t_, f_, t_, f_, f_, f_, f_, f_, f_, f_, f_, f_, f_] rfl rfl (any_of HT_.out (by kernel_rfl)) (fun _ _ _ h => h) (Or.inl ⟨by rfl, ?_⟩) ?_ ?_
                       rotate_left
                       ·intro w'; go_simp
                        with_reducible rfl
                       rotate_left
                       ·simp only [Act.put, List.setIfInBounds_toArray, List.set_cons_zero, List.set_cons_succ, i64_w, i32_w]
                        rfl
                       refine pure_ (i := 5) (N := some 100) (v := ?_) (a' := ?_) #[t_, t_, t_, f_, t_, t_, f_, f_, f_, f_, f_, f_, f_, f_, f_] rfl rfl (any_of HT_.out (by kernel_rfl)) (fun _ _ _ h => h) (Or.inl ⟨by rfl, ?_⟩) ?_ ?_
                       rotate_left
                       ·intro w'; go_simp
                        with_reducible rfl
                       rotate_left
                       ·simp only [Act.put, List.setIfInBounds_toArray, List.set_cons_zero, List.set_cons_succ, i64_w, i32_w]
                        rfl
                       refine pure_ (i := 6) (N := some 101) (v := ?_) (a' := ?_) #[t_, t_, t_, f_, t_, t_, t_, f_, f_, f_, f_, f_, f_, f_, f_] rfl rfl (any_of HT_.out (by kernel_rfl)) (fun _ _ _ h => h) (Or.inl ⟨by rfl, ?_⟩) ?_ ?_
                       rotate_left
                       ·intro w'; go_simp
                        with_reducible rfl
                       rotate_left
                       ·simp only [Act.put, List.setIfInBounds_toArray, List.set_cons_zero, List.set_cons_succ, i64_w, i32_w]
                        rfl
                       refine pure_ (i := 7) (N := some 102) (v := ?_) (a' := ?_) #[t_, t_, t_, f_, t_, t_, t_, t_, f_, f_, f_, f_, f_, f_, f_] rfl rfl (any_of HT_.out (by kernel_rfl)) (fun _ _ _ h => h) (Or.inl ⟨by rfl, ?_⟩) ?_ ?_
                       rotate_left
                       ·intro w'; go_simp
                        with_reducible rfl
                       rotate_left
                       ·simp only [Act.put, List.setIfInBounds_toArray, List.set_cons_zero, List.set_cons_succ, i64_w, i32_w]
                        rfl
                       refine pure_ (i := 8) (N := some 103) (v := ?_) (a' := ?_) #[t_, t_, t_, f_, t_, t_, t_, t_, t_, f_, f_, f_, f_, f_, f_] rfl rfl (any_of HT_.out (by kernel_rfl)) (fun _ _ _ h => h) (Or.inl ⟨by rfl, ?_⟩) ?_ ?_
                       rotate_left
                       ·intro w'; go_simp
                        with_reducible rfl
                       rotate_left
                       ·simp only [Act.put, List.setIfInBounds_toArray, List.set_cons_zero, List.set_cons_succ, i64_w, i32_w]
                        rfl
                       refine pure_ (i := 10) (N := some 105) (v := ?_) (a' := ?_) #[t_, t_, t_, f_, t_, t_, t_, t_, t_, f_, t_, f_, f_, f_, f_] rfl rfl (any_of HT_.out (by kernel_rfl)) (fun _ _ _ h => h) (Or.inl ⟨by rfl, ?_⟩) ?_ ?_
                       rotate_left
                       ·intro w'; go_simp
                        with_reducible rfl
                       rotate_left
                       ·simp only [Act.put, List.setIfInBounds_toArray, List.set_cons_zero, List.set_cons_succ, i64_w, i32_w]
                        rfl
                       refine take_ (i := 3) (N := some 98) (v := ?_) (a' := ?_) #[t_, t_, t_, t_, t_, t_, t_, t_, t_, f_, t_, f_, f_, f_, f_] rfl rfl (take_ofW HT_.out HW_.out (by kernel_rfl)) (fun _ _ _ h => h) (Or.inl ⟨by rfl, ?_⟩) hHeld ?_ ?_
                       rotate_left
                       ·rintro w' ⟨s0, s1, s2⟩; go_simp
                        with_reducible rfl
                       rotate_left
                       ·simp only [Act.put, List.setIfInBounds_toArray, List.set_cons_zero, List.set_cons_succ, i64_w, i32_w]
                        rfl
                       refine take_ (i := 9) (N := some 104) (v := ?_) (a' := ?_) #[t_, t_, t_, t_, t_, t_, t_, t_, t_, t_, t_, f_, f_, f_, f_] rfl rfl (take_ofW HT_.out HW_.out (by kernel_rfl)) (fun _ _ _ h => h) (Or.inl ⟨by rfl, ?_⟩) hHeld ?_ ?_
                       rotate_left
                       ·rintro w' ⟨s0, s1, s2⟩; go_simp
                        with_reducible rfl
                       rotate_left
                       ·simp only [Act.put, List.setIfInBounds_toArray, List.set_cons_zero, List.set_cons_succ, i64_w, i32_w]
                        rfl
                       refine pure_ (i := 11) (N := some 106) (v := ?_) (a' := ?_) #[t_, t_, t_, t_, t_, t_, t_, t_, t_, t_, t_, t_, f_, f_, f_] rfl rfl (any_of HT_.out (by kernel_rfl)) (fun _ _ _ h => h) (Or.inl ⟨by rfl, ?_⟩) ?_ ?_
                       rotate_left
                       ·intro w'; go_simp
                        with_reducible rfl
                       rotate_left
                       ·simp only [Act.put, List.setIfInBounds_toArray, List.set_cons_zero, List.set_cons_succ, i64_w, i32_w]
                        rfl
                       refine take_ (i := 12) (N := some 107) (v := ?_) (a' := ?_) #[t_, t_, t_, t_, t_, t_, t_, t_, t_, t_, t_, t_, t_, f_, f_] rfl rfl (take_ofW HT_.out HW_.out (by kernel_rfl)) (fun _ _ _ h => h) (Or.inl ⟨by rfl, ?_⟩) hHeld ?_ ?_
                       rotate_left
                       ·rintro w' ⟨s0, s1, s2⟩; go_simp
                        with_reducible rfl
                       rotate_left
                       ·simp only [Act.put, List.setIfInBounds_toArray, List.set_cons_zero, List.set_cons_succ, i64_w, i32_w]
                        rfl
                       refine pure_ (i := 13) (N := some 108) (v := ?_) (a' := ?_) #[t_, t_, t_, t_, t_, t_, t_, t_, t_, t_, t_, t_, t_, t_, f_] rfl rfl (any_of HT_.out (by kernel_rfl)) (fun _ _ _ h => h) (Or.inl ⟨by rfl, ?_⟩) ?_ ?_
                       rotate_left
                       ·intro w'; go_simp
                        with_reducible rfl
                       rotate_left
                       ·simp only [Act.put, List.setIfInBounds_toArray, List.set_cons_zero, List.set_cons_succ, i64_w, i32_w]
                        rfl
                       refine last_ (i := 14) (N := none) #[t_, t_, t_, t_, t_, t_, t_, t_, t_, t_, t_, t_, t_, t_, t_] rfl rfl (one_of HT_.out (by kernel_rfl)) (by decide) (fun K hK => ?_); refine skip_ (w1 := ?_) (by rfl) rfl ?_ ?_
                       rotate_left
                       ·go_simp
                        rfl
                       refine hK.out _ _ ?_; clear hK K; refine done_ (done_of HT_.out (by kernel_rfl)) ?_; (try go_wp2); go_roundg k3
                       case measure => have := HK1.out; have := HK2.out; have := HK3.out; omega
                       case rel => exact ⟨(y302), (wrap64 (x8_3 - 1)), (by first | rfl | (simp; done) | (simp [*]; done)), H', ⟨by have := HK1.out; have := HK2.out; have := HK3.out; omega⟩, ⟨by (with_reducible repeat (first | apply Kd.S_alloc | apply Kd.S_drewN | apply Kd.S_drew)); exact HQ50.out⟩, ⟨by repeat (first | (with_reducible first | exact HB.out | apply below_alloc | apply pw_below_drewN | apply below_drew1 | refine below_set ?_ GB45.out) | exact HB.out)⟩⟩
                      ·rw [if_neg c44] at H; exact absurd H (by simp)
                     ·rw [if_neg c43] at H; have c43b0 : decide ((rd (rd_L7 x5_3 x7_2) (ji40)) ≤ (rd (rd_L7 x5_3 (ji35)) x8_3)) = false := decide_eq_false c43; clear c43; by_cases c52 : x8_3 < ((rd_L7 x5_3 x7_2).length : Int)
                      ·rw [if_pos c52] at H; have c52b0 : decide (x8_3 < ((rd_L7 x5_3 x7_2).length : Int)) = true := decide_eq_true c52; clear c52; obtain ⟨y306, hy306⟩ : ∃ y_ : List Int, y_ = ((rd_L7 x5_3 x7_2).set (x8_3 : Int).toNat (rd (rd_L7 x5_3 x7_2) (ji40))) := ⟨_, rfl⟩; (replace H : (spec_l1Table.l2 k3 l0 l1 (x5_3.set (x7_2 : Int).toNat y306) x7_2 (wrap64 (x8_3 - 1))) = some r := by first | (rw [hy306]; with_reducible exact H) | (have H2_ := (Option.bind_some _ _).symm.trans H; rw [hy306]; with_reducible exact H2_) | (have H2_ := (Option.bind_some _ _).symm.trans H; with_reducible exact H2_) | with_reducible exact H | (rw [hy306]; exact H) | exact H); have Ny306 := Aside0.mk hy306; clear hy306; obtain ⟨y308, hy308⟩ : ∃ y_ : List (List Int), y_ = (x5_3.set (x7_2 : Int).toNat y306) := ⟨_, rfl⟩; (replace H : (spec_l1Table.l2 k3 l0 l1 y308 x7_2 (wrap64 (x8_3 - 1))) = some r := by first | (rw [hy308]; with_reducible exact H) | (have H2_ := (Option.bind_some _ _).symm.trans H; rw [hy308]; with_reducible exact H2_) | (have H2_ := (Option.bind_some _ _).symm.trans H; with_reducible exact H2_) | with_reducible exact H | (rw [hy308]; exact H) | exact H); have Ny308 := Aside0.mk hy308; clear hy308; have H' := Aside0.mk H; clear H; (try go_wp2); have n0_ := Aside0.mk (Kd.S_drew HO_5.out); have n1_ := Aside0.mk (below_drew1 HB.out); clear HO_5; clear HB; have HO_5 := n0_; have HB := n1_; clear n0_ n1_; have p285 : 0 ≤ (x7_2 : Int) := of_decide_eq_true (by assumption); have q285 : x7_2 < (l0.length : Int) := of_decide_eq_true (by assumption); obtain ⟨ad285, e285, hx285_0⟩ := Kd.at_string HR0.out x7_2 p285 q285; have hw285_0 := hx285_0; cases e285; replace hx285_0 := (HB.out.cell (World.block_lt_of_cell? w _ hx285_0)).trans hx285_0; replace p285 := eq_true p285; replace q285 := eq_true q285; have p286 : 0 ≤ (x8_3 : Int) := of_decide_eq_true (by assumption); have q286 : x8_3 < (l1.length : Int) := of_decide_eq_true (by assumption); obtain ⟨ad286, e286, hx286_0⟩ := Kd.at_string HR1.out x8_3 p286 q286; have hw286_0 := hx286_0; cases e286; replace hx286_0 := (HB.out.cell (World.block_lt_of_cell? w _ hx286_0)).trans hx286_0; replace p286 := eq_true p286; replace q286 := eq_true q286; refine start_ (n := 10) (S := fun w' => w'.cell? (ad285.add (x7_2).toNat) = some (.string (rdOf ByteArray.empty l0 x7_2)) ∧ w'.cell? (ad286.add (x8_3).toNat) = some (.string (rdOf ByteArray.empty l1 x8_3))) (ds := []) #[f_, f_, f_, f_, f_, f_, f_, f_, f_, f_] (by kernel_rfl) rfl rfl ⟨((HB.out.cell (World.block_lt_of_cell? w _ hw285_0)).trans hw285_0), ((HB.out.cell (World.block_lt_of_cell? w _ hw286_0)).trans hw286_0)⟩ (fun hHeld => ?_); refine with_tabW spec_l1Table.tab13 spec_l1Table.bits13 (fun HT_ HW_ => ?_); generalize wr.drew = w54 at HO_5 HB hx285_0 hx286_0 hHeld ⊢; refine pure_ (i := 0) (N := some 52) (v := ?_) (a' := ?_) #[t_, f_, f_, f_, f_, f_, f_, f_, f_, f_] rfl rfl (any_of HT_.out (by kernel_rfl)) (fun _ _ _ h => h) (Or.inl ⟨by rfl, ?_⟩) ?_ ?_
                       rotate_left
                       ·intro w'; go_simp
                        with_reducible rfl
                       rotate_left
                       ·simp only [Act.put, List.setIfInBounds_toArray, List.set_cons_zero, List.set_cons_succ, i64_w, i32_w]
                        rfl
                       refine pure_ (i := 1) (N := some 53) (v := ?_) (a' := ?_) #[t_, t_, f_, f_, f_, f_, f_, f_, f_, f_] rfl rfl (any_of HT_.out (by kernel_rfl)) (fun _ _ _ h => h) (Or.inl ⟨by rfl, ?_⟩) ?_ ?_
                       rotate_left
                       ·intro w'; go_simp
                        with_reducible rfl
                       rotate_left
                       ·simp only [Act.put, List.setIfInBounds_toArray, List.set_cons_zero, List.set_cons_succ, i64_w, i32_w]
                        rfl
                       refine pure_ (i := 2) (N := some 54) (v := ?_) (a' := ?_) #[t_, t_, t_, f_, f_, f_, f_, f_, f_, f_] rfl rfl (any_of HT_.out (by kernel_rfl)) (fun _ _ _ h => h) (Or.inl ⟨by rfl, ?_⟩) ?_ ?_
                       rotate_left
                       ·intro w'; go_simp
                        with_reducible rfl
                       rotate_left
                       ·simp only [Act.put, List.setIfInBounds_toArray, List.set_cons_zero, List.set_cons_succ, i64_w, i32_w]
                        rfl
                       refine pure_ (i := 4) (N := some 56) (v := ?_) (a' := ?_) #[t_, t_, t_, f_, t_, f_, f_, f_, f_, f_] rfl rfl (any_of HT_.out (by kernel_rfl)) (fun _ _ _ h => h) (Or.inl ⟨by rfl, ?_⟩) ?_ ?_
                       rotate_left
                       ·intro w'; go_simp
                        with_reducible rfl
                       rotate_left
                       ·simp only [Act.put, List.setIfInBounds_toArray, List.set_cons_zero, List.set_cons_succ, i64_w, i32_w]
                        rfl
                       refine pure_ (i := 5) (N := some 57) (v := ?_) (a' := ?_) #[t_, t_, t_, f_, t_, t_, f_, f_, f_, f_] rfl rfl (any_of HT_.out (by kernel_rfl)) (fun _ _ _ h => h) (Or.inl ⟨by rfl, ?_⟩) ?_ ?_
                       rotate_left
                       ·intro w'; go_simp
                        with_reducible rfl
                       rotate_left
                       ·simp only [Act.put, List.setIfInBounds_toArray, List.set_cons_zero, List.set_cons_succ, i64_w, i32_w]
                        rfl
                       refine pure_ (i := 6) (N := some 58) (v := ?_) (a' := ?_) #[t_, t_, t_, f_, t_, t_, t_, f_, f_, f_] rfl rfl (any_of HT_.out (by kernel_rfl)) (fun _ _ _ h => h) (Or.inl ⟨by rfl, ?_⟩) ?_ ?_
                       rotate_left
                       ·intro w'; go_simp
                        with_reducible rfl
                       rotate_left
                       ·simp only [Act.put, List.setIfInBounds_toArray, List.set_cons_zero, List.set_cons_succ, i64_w, i32_w]
                        rfl
                       refine take_ (i := 3) (N := some 55) (v := ?_) (a' := ?_) #[t_, t_, t_, t_, t_, t_, t_, f_, f_, f_] rfl rfl (take_ofW HT_.out HW_.out (by kernel_rfl)) (fun _ _ _ h => h) (Or.inl ⟨by rfl, ?_⟩) hHeld ?_ ?_
                       rotate_left
                       ·rintro w' ⟨s0, s1⟩; go_simp
                        with_reducible rfl
                       rotate_left
                       ·simp only [Act.put, List.setIfInBounds_toArray, List.set_cons_zero, List.set_cons_succ, i64_w, i32_w]
                        rfl
                       refine take_ (i := 7) (N := some 59) (v := ?_) (a' := ?_) #[t_, t_, t_, t_, t_, t_, t_, t_, f_, f_] rfl rfl (take_ofW HT_.out HW_.out (by kernel_rfl)) (fun _ _ _ h => h) (Or.inl ⟨by rfl, ?_⟩) hHeld ?_ ?_
                       rotate_left
                       ·rintro w' ⟨s0, s1⟩; go_simp
                        with_reducible rfl
                       rotate_left
                       ·simp only [Act.put, List.setIfInBounds_toArray, List.set_cons_zero, List.set_cons_succ, i64_w, i32_w]
                        rfl
                       refine pure_ (i := 8) (N := some 60) (v := ?_) (a' := ?_) #[t_, t_, t_, t_, t_, t_, t_, t_, t_, f_] rfl rfl (any_of HT_.out (by kernel_rfl)) (fun _ _ _ h => h) (Or.inl ⟨by rfl, ?_⟩) ?_ ?_
                       rotate_left
                       ·intro w'; go_simp
                        with_reducible rfl
                       rotate_left
                       ·simp only [Act.put, List.setIfInBounds_toArray, List.set_cons_zero, List.set_cons_succ, i64_w, i32_w]
                        rfl
                       refine pure_ (i := 9) (N := some 51) (v := ?_) (a' := ?_) #[t_, t_, t_, t_, t_, t_, t_, t_, t_, t_] rfl rfl (any_of HT_.out (by kernel_rfl)) (fun _ _ _ h => h) (Or.inl ⟨by rfl, ?_⟩) ?_ ?_
                       rotate_left
                       ·intro w'; go_simp
                        with_reducible rfl
                       rotate_left
                       ·simp only [Act.put, List.setIfInBounds_toArray, List.set_cons_zero, List.set_cons_succ, i64_w, i32_w]
                        rfl
                       refine done_ (done_of HT_.out (by kernel_rfl)) ?_; (try go_wp2); have n0_ := Aside0.mk (Kd.S_drew HO_5.out); have n1_ := Aside0.mk (below_drew1 HB.out); clear HO_5; clear HB; have HO_5 := n0_; have HB := n1_; clear n0_ n1_; obtain ⟨Ao56, co56, eo56⟩ := Kd.S_slice HO_5.out
                       (first | subst eo56 | (injection eo56 with f1_ f2_ f3_; have f4_ := f1_.symm; have f5_ := f3_.symm; clear f1_ f2_ f3_; subst f4_; subst f5_))
                       have p293 : 0 ≤ ((ji35) : Int) := of_decide_eq_true (by assumption); have q293 : (ji35) < (x5_3.length : Int) := of_decide_eq_true (by assumption); obtain ⟨ad293, A293_0, c293_0, e293, hx293_0, hl293_0, hi293_0⟩ := at_L7 (Kd.S_reads' HO_5.out).2.2 (ji35) p293 q293; cases e293; obtain ⟨ce293, hce293, hMe293, hcc293⟩ := Kd.S_get HO_5.out [] (ji35) p293 (by first | exact q293 | exact of_decide_eq_true (by assumption) | (have e_ := (Kd.S_reads' HO_5.out).1; omega)); obtain ⟨ve293_0, rfl, ge293_0⟩ := hMe293; have hv293_0 := hcc293 0 _ rfl; rw [Nat.add_zero, show ((Kd.slice 3 (Kd.int .i64))).sz = 1 from rfl, Nat.mul_one] at hv293_0; replace hv293_0 := Option.some.inj (hv293_0.symm.trans hx293_0); rw [hv293_0] at ge293_0; have HL293_0 := Aside0.mk (show Kd.R (Kd.int .i64) 3 _ _ _ _ (rd_L7 x5_3 (ji35)) from ge293_0); clear hv293_0 ge293_0; have HX293_0 := Aside0.mk hx293_0; clear hcc293 hce293; have HR293_0 := Aside0.mk hi293_0; have HC293_0 := Aside0.mk hl293_0; clear hi293_0 hl293_0; replace p293 := eq_true p293; replace q293 := eq_true q293; have p294 : 0 ≤ (x8_3 : Int) := of_decide_eq_true (by assumption); have q294 : x8_3 < ((rd_L7 x5_3 (ji35)).length : Int) := of_decide_eq_true (by assumption); obtain ⟨ad294, e294, hx294_0⟩ := Kd.at_int (by repeat (first | (with_reducible exact HR293_0.out) | (with_reducible refine Kd.C_alloc ?_ _) | (with_reducible refine Kd.C_drewN ?_ _) | (with_reducible refine Kd.C_drew ?_) | exact HR293_0.out)) x8_3 p294 q294; cases e294; replace p294 := eq_true p294; replace q294 := eq_true q294; have p295 : 0 ≤ (x7_2 : Int) := of_decide_eq_true (by assumption); have q295 : x7_2 < (x5_3.length : Int) := of_decide_eq_true (by assumption); obtain ⟨ad295, A295_0, c295_0, e295, hx295_0, hl295_0, hi295_0⟩ := at_L7 (Kd.S_reads' HO_5.out).2.2 x7_2 p295 q295; obtain rfl : ad293 = ad295 := (by injection e295); obtain ⟨ce295, hce295, hMe295, hcc295⟩ := Kd.S_get HO_5.out [] x7_2 p295 (by first | exact q295 | exact of_decide_eq_true (by assumption) | (have e_ := (Kd.S_reads' HO_5.out).1; omega)); obtain ⟨ve295_0, rfl, ge295_0⟩ := hMe295; have hv295_0 := hcc295 0 _ rfl; rw [Nat.add_zero, show ((Kd.slice 3 (Kd.int .i64))).sz = 1 from rfl, Nat.mul_one] at hv295_0; replace hv295_0 := Option.some.inj (hv295_0.symm.trans hx295_0); rw [hv295_0] at ge295_0; have HL295_0 := Aside0.mk (show Kd.R (Kd.int .i64) 3 _ _ _ _ (rd_L7 x5_3 x7_2) from ge295_0); clear hv295_0 ge295_0; have HX295_0 := Aside0.mk hx295_0; clear hcc295 hce295; have HR295_0 := Aside0.mk hi295_0; have HC295_0 := Aside0.mk hl295_0; clear hi295_0 hl295_0; replace p295 := eq_true p295; replace q295 := eq_true q295; have p296 : 0 ≤ ((ji40) : Int) := of_decide_eq_true (by assumption); have q296 : (ji40) < ((rd_L7 x5_3 x7_2).length : Int) := of_decide_eq_true (by assumption); obtain ⟨ad296, e296, hx296_0⟩ := Kd.at_int (by repeat (first | (with_reducible exact HR295_0.out) | (with_reducible refine Kd.C_alloc ?_ _) | (with_reducible refine Kd.C_drewN ?_ _) | (with_reducible refine Kd.C_drew ?_) | exact HR295_0.out)) (ji40) p296 q296
                       cases e296; replace p296 := eq_true p296; replace q296 := eq_true q296; refine start_ (n := 18) (S := fun w' => w'.cell? (ad293.add ((ji35)).toNat) = some (.slice (some ad294) (rd_L7 x5_3 (ji35)).length c293_0) ∧ w'.cell? (ad294.add (x8_3).toNat) = some (.int .i64 (rd (rd_L7 x5_3 (ji35)) x8_3)) ∧ w'.cell? (ad293.add (x7_2).toNat) = some (.slice (some ad296) (rd_L7 x5_3 x7_2).length c295_0) ∧ w'.cell? (ad296.add ((ji40)).toNat) = some (.int .i64 (rd (rd_L7 x5_3 x7_2) (ji40)))) (ds := []) #[f_, f_, f_, f_, f_, f_, f_, f_, f_, f_, f_, f_, f_, f_, f_, f_, f_, f_] (by kernel_rfl) rfl rfl ⟨hx293_0, hx294_0, hx295_0, hx296_0⟩ (fun hHeld => ?_); refine with_tabW spec_l1Table.tab15 spec_l1Table.bits15 (fun HT_ HW_ => ?_); generalize w54.drew = w55 at HO_5 HB HL293_0 HL295_0 HR293_0 HR295_0 HX293_0 HX295_0 hx293_0 hx294_0 hx295_0 hx296_0 hHeld ⊢; refine pure_ (i := 0) (N := some 78) (v := ?_) (a' := ?_) #[t_, f_, f_, f_, f_, f_, f_, f_, f_, f_, f_, f_, f_, f_, f_, f_, f_, f_] rfl rfl (any_of HT_.out (by kernel_rfl)) (fun _ _ _ h => h) (Or.inl ⟨by rfl, ?_⟩) ?_ ?_
                       rotate_left
                       ·intro w'; go_simp
                        with_reducible rfl
                       rotate_left
                       ·simp only [Act.put, List.setIfInBounds_toArray, List.set_cons_zero, List.set_cons_succ, i64_w, i32_w]
                        rfl
                       refine pure_ (i := 1) (N := some 79) (v := ?_) (a' := ?_) #[t_, t_, f_, f_, f_, f_, f_, f_, f_, f_, f_, f_, f_, f_, f_, f_, f_, f_] rfl rfl (any_of HT_.out (by kernel_rfl)) (fun _ _ _ h => h) (Or.inl ⟨by rfl, ?_⟩) ?_ ?_
                       rotate_left
                       ·intro w'; go_simp
                        with_reducible rfl
                       rotate_left
                       ·simp only [Act.put, List.setIfInBounds_toArray, List.set_cons_zero, List.set_cons_succ, i64_w, i32_w]
                        rfl
                       refine pure_ (i := 2) (N := some 80) (v := ?_) (a' := ?_) #[t_, t_, t_, f_, f_, f_, f_, f_, f_, f_, f_, f_, f_, f_, f_, f_, f_, f_] rfl rfl (any_of HT_.out (by kernel_rfl)) (fun _ _ _ h => h) (Or.inl ⟨by rfl, ?_⟩) ?_ ?_
                       rotate_left
                       ·intro w'; go_simp
                        with_reducible rfl
                       rotate_left
                       ·simp only [Act.put, List.setIfInBounds_toArray, List.set_cons_zero, List.set_cons_succ, i64_w, i32_w]
                        rfl
                       refine pure_ (i := 3) (N := some 81) (v := ?_) (a' := ?_) #[t_, t_, t_, t_, f_, f_, f_, f_, f_, f_, f_, f_, f_, f_, f_, f_, f_, f_] rfl rfl (any_of HT_.out (by kernel_rfl)) (fun _ _ _ h => h) (Or.inl ⟨by rfl, ?_⟩) ?_ ?_
                       rotate_left
                       ·intro w'; go_simp
                        with_reducible rfl
                       rotate_left
                       ·simp only [Act.put, List.setIfInBounds_toArray, List.set_cons_zero, List.set_cons_succ, i64_w, i32_w]
                        rfl
                       refine pure_ (i := 5) (N := some 83) (v := ?_) (a' := ?_) #[t_, t_, t_, t_, f_, t_, f_, f_, f_, f_, f_, f_, f_, f_, f_, f_, f_, f_] rfl rfl (any_of HT_.out (by kernel_rfl)) (fun _ _ _ h => h) (Or.inl ⟨by rfl, ?_⟩) ?_ ?_
                       rotate_left
                       ·intro w'; go_simp
                        with_reducible rfl
                       rotate_left
                       ·simp only [Act.put, List.setIfInBounds_toArray, List.set_cons_zero, List.set_cons_succ, i64_w, i32_w]
                        rfl
                       refine pure_ (i := 8) (N := some 86) (v := ?_) (a' := ?_) #[t_, t_, t_, t_, f_, t_, f_, f_, t_, f_, f_, f_, f_, f_, f_, f_, f_, f_] rfl rfl (any_of HT_.out (by kernel_rfl)) (fun _ _ _ h => h) (Or.inl ⟨by rfl, ?_⟩) ?_ ?_
                       rotate_left
                       ·intro w'; go_simp
                        with_reducible rfl
                       rotate_left
                       ·simp only [Act.put, List.setIfInBounds_toArray, List.set_cons_zero, List.set_cons_succ, i64_w, i32_w]
                        rfl
                       refine pure_ (i := 9) (N := some 87) (v := ?_) (a' := ?_) #[t_, t_, t_, t_, f_, t_, f_, f_, t_, t_, f_, f_, f_, f_, f_, f_, f_, f_] rfl rfl (any_of HT_.out (by kernel_rfl)) (fun _ _ _ h => h) (Or.inl ⟨by rfl, ?_⟩) ?_ ?_
                       rotate_left
                       ·intro w'; go_simp
                        with_reducible rfl
                       rotate_left
                       ·simp only [Act.put, List.setIfInBounds_toArray, List.set_cons_zero, List.set_cons_succ, i64_w, i32_w]
                        rfl
                       refine pure_ (i := 10) (N := some 88) (v := ?_) (a' := ?_) #[t_, t_, t_, t_, f_, t_, f_, f_, t_, t_, t_, f_, f_, f_, f_, f_, f_, f_] rfl rfl (any_of HT_.out (by kernel_rfl)) (fun _ _ _ h => h) (Or.inl ⟨by rfl, ?_⟩) ?_ ?_
                       rotate_left
                       ·intro w'; go_simp
                        with_reducible rfl
                       rotate_left
                       ·simp only [Act.put, List.setIfInBounds_toArray, List.set_cons_zero, List.set_cons_succ, i64_w, i32_w]
                        rfl
                       refine pure_ (i := 12) (N := some 90) (v := ?_) (a' := ?_) #[t_, t_, t_, t_, f_, t_, f_, f_, t_, t_, t_, f_, t_, f_, f_, f_, f_, f_] rfl rfl (any_of HT_.out (by kernel_rfl)) (fun _ _ _ h => h) (Or.inl ⟨by rfl, ?_⟩) ?_ ?_
                       rotate_left
                       ·intro w'; go_simp
                        with_reducible rfl
                       rotate_left
                       ·simp only [Act.put, List.setIfInBounds_toArray, List.set_cons_zero, List.set_cons_succ, i64_w, i32_w]
                        rfl
                       refine pure_ (i := 13) (N := some 91) (v := ?_) (a' := ?_) #[t_, t_, t_, t_, f_, t_, f_, f_, t_, t_, t_, f_, t_, t_, f_, f_, f_, f_] rfl rfl (any_of HT_.out (by kernel_rfl)) (fun _ _ _ h => h) (Or.inl ⟨by rfl, ?_⟩) ?_ ?_
                       rotate_left
                       ·intro w'; go_simp
                        with_reducible rfl
                       rotate_left
                       ·simp only [Act.put, List.setIfInBounds_toArray, List.set_cons_zero, List.set_cons_succ, i64_w, i32_w]
                        rfl
                       refine take_ (i := 4) (N := some 82) (v := ?_) (a' := ?_) #[t_, t_, t_, t_, t_, t_, f_, f_, t_, t_, t_, f_, t_, t_, f_, f_, f_, f_] rfl rfl (take_ofW HT_.out HW_.out (by kernel_rfl)) (fun _ _ _ h => h) (Or.inl ⟨by rfl, ?_⟩) hHeld ?_ ?_
                       rotate_left
                       ·rintro w' ⟨s0, s1, s2, s3⟩; go_simp
                        with_reducible rfl
                       rotate_left
                       ·simp only [Act.put, List.setIfInBounds_toArray, List.set_cons_zero, List.set_cons_succ, i64_w, i32_w]
                        rfl
                       refine pure_ (i := 6) (N := some 84) (v := ?_) (a' := ?_) #[t_, t_, t_, t_, t_, t_, t_, f_, t_, t_, t_, f_, t_, t_, f_, f_, f_, f_] rfl rfl (any_of HT_.out (by kernel_rfl)) (fun _ _ _ h => h) (Or.inl ⟨by rfl, ?_⟩) ?_ ?_
                       rotate_left
                       ·intro w'; go_simp
                        with_reducible rfl
                       rotate_left
                       ·simp only [Act.put, List.setIfInBounds_toArray, List.set_cons_zero, List.set_cons_succ, i64_w, i32_w]
                        rfl
                       refine take_ (i := 7) (N := some 85) (v := ?_) (a' := ?_) #[t_, t_, t_, t_, t_, t_, t_, t_, t_, t_, t_, f_, t_, t_, f_, f_, f_, f_] rfl rfl (take_ofW HT_.out HW_.out (by kernel_rfl)) (fun _ _ _ h => h) (Or.inl ⟨by rfl, ?_⟩) hHeld ?_ ?_
                       rotate_left
                       ·rintro w' ⟨s0, s1, s2, s3⟩; go_simp
                        with_reducible rfl
                       rotate_left
                       ·simp only [Act.put, List.setIfInBounds_toArray, List.set_cons_zero, List.set_cons_succ, i64_w, i32_w]
                        rfl
                       refine take_ (i := 11) (N := some 89) (v := ?_) (a' := ?_) #[t_, t_, t_, t_, t_, t_, t_, t_, t_, t_, t_, t_, t_, t_, f_, f_, f_, f_] rfl rfl (take_ofW HT_.out HW_.out (by kernel_rfl)) (fun _ _ _ h => h) (Or.inl ⟨by rfl, ?_⟩) hHeld ?_ ?_
                       rotate_left
                       ·rintro w' ⟨s0, s1, s2, s3⟩; go_simp
                        with_reducible rfl
                       rotate_left
                       ·simp only [Act.put, List.setIfInBounds_toArray, List.set_cons_zero, List.set_cons_succ, i64_w, i32_w]
                        rfl
                       refine pure_ (i := 14) (N := some 92) (v := ?_) (a' := ?_) #[t_, t_, t_, t_, t_, t_, t_, t_, t_, t_, t_, t_, t_, t_, t_, f_, f_, f_] rfl rfl (any_of HT_.out (by kernel_rfl)) (fun _ _ _ h => h) (Or.inl ⟨by rfl, ?_⟩) ?_ ?_
                       rotate_left
                       ·intro w'; go_simp
                        with_reducible rfl
                       rotate_left
                       ·simp only [Act.put, List.setIfInBounds_toArray, List.set_cons_zero, List.set_cons_succ, i64_w, i32_w]
                        rfl
                       refine take_ (i := 15) (N := some 93) (v := ?_) (a' := ?_) #[t_, t_, t_, t_, t_, t_, t_, t_, t_, t_, t_, t_, t_, t_, t_, t_, f_, f_] rfl rfl (take_ofW HT_.out HW_.out (by kernel_rfl)) (fun _ _ _ h => h) (Or.inl ⟨by rfl, ?_⟩) hHeld ?_ ?_
                       rotate_left
                       ·rintro w' ⟨s0, s1, s2, s3⟩; go_simp
                        with_reducible rfl
                       rotate_left
                       ·simp only [Act.put, List.setIfInBounds_toArray, List.set_cons_zero, List.set_cons_succ, i64_w, i32_w]
                        rfl
                       refine pure_ (i := 16) (N := some 94) (v := ?_) (a' := ?_) #[t_, t_, t_, t_, t_, t_, t_, t_, t_, t_, t_, t_, t_, t_, t_, t_, t_, f_] rfl rfl (any_of HT_.out (by kernel_rfl)) (fun _ _ _ h => h) (Or.inl ⟨by rfl, ?_⟩) ?_ ?_
                       rotate_left
                       ·intro w'; go_simp
                        with_reducible rfl
                       rotate_left
                       ·simp only [Act.put, List.setIfInBounds_toArray, List.set_cons_zero, List.set_cons_succ, i64_w, i32_w]
                        rfl
                       refine pure_ (i := 17) (N := some 77) (v := ?_) (a' := ?_) #[t_, t_, t_, t_, t_, t_, t_, t_, t_, t_, t_, t_, t_, t_, t_, t_, t_, t_] rfl rfl (any_of HT_.out (by kernel_rfl)) (fun _ _ _ h => h) (Or.inl ⟨by rfl, ?_⟩) ?_ ?_
                       rotate_left
                       ·intro w'; go_simp
                        with_reducible rfl
                       rotate_left
                       ·simp only [Act.put, List.setIfInBounds_toArray, List.set_cons_zero, List.set_cons_succ, i64_w, i32_w]
                        rfl
                       refine done_ (done_of HT_.out (by kernel_rfl)) ?_; (try go_wp2); have n0_ := Aside0.mk (Kd.S_drew HO_5.out); have n1_ := Aside0.mk (Kd.R_drew HL293_0.out); have n2_ := Aside0.mk (Kd.R_drew HL295_0.out); have n3_ := Aside0.mk (Kd.C_drew HR293_0.out); have n4_ := Aside0.mk (Kd.C_drew HR295_0.out); have n5_ := Aside0.mk (below_drew1 HB.out); clear HO_5; clear HL293_0; clear HL295_0; clear HR293_0; clear HR295_0; clear HB; have HO_5 := n0_; have HL293_0 := n1_; have HL295_0 := n2_; have HR293_0 := n3_; have HR295_0 := n4_; have HB := n5_; clear n0_ n1_ n2_ n3_ n4_ n5_; have p303 : 0 ≤ (x7_2 : Int) := of_decide_eq_true (by assumption); have q303 : x7_2 < (x5_3.length : Int) := of_decide_eq_true (by assumption); obtain ⟨ad303, A303_0, c303_0, e303, hx303_0, hl303_0, hi303_0⟩ := at_L7 (Kd.S_reads' HO_5.out).2.2 x7_2 p303 q303; obtain rfl : ad293 = ad303 := (by injection e303); obtain ⟨ce303, hce303, hMe303, hcc303⟩ := Kd.S_get HO_5.out [] x7_2 p303 (by first | exact q303 | exact of_decide_eq_true (by assumption) | (have e_ := (Kd.S_reads' HO_5.out).1; omega)); obtain ⟨ve303_0, rfl, ge303_0⟩ := hMe303; have hv303_0 := hcc303 0 _ rfl; rw [Nat.add_zero, show ((Kd.slice 3 (Kd.int .i64))).sz = 1 from rfl, Nat.mul_one] at hv303_0; replace hv303_0 := Option.some.inj (hv303_0.symm.trans hx303_0); rw [hv303_0] at ge303_0; have HL303_0 := Aside0.mk (show Kd.R (Kd.int .i64) 3 _ _ _ _ (rd_L7 x5_3 x7_2) from ge303_0); clear hv303_0 ge303_0; have HX303_0 := Aside0.mk hx303_0; clear hcc303 hce303; have HR303_0 := Aside0.mk hi303_0; have HC303_0 := Aside0.mk hl303_0; clear hi303_0 hl303_0; replace p303 := eq_true p303; replace q303 := eq_true q303; have p304 : 0 ≤ (x7_2 : Int) := of_decide_eq_true (by assumption); have q304 : x7_2 < (x5_3.length : Int) := of_decide_eq_true (by assumption); obtain ⟨ad304, A304_0, c304_0, e304, hx304_0, hl304_0, hi304_0⟩ := at_L7 (Kd.S_reads' HO_5.out).2.2 x7_2 p304 q304; obtain rfl : ad293 = ad304 := (by injection e304); obtain ⟨ce304, hce304, hMe304, hcc304⟩ := Kd.S_get HO_5.out [] x7_2 p304 (by first | exact q304 | exact of_decide_eq_true (by assumption) | (have e_ := (Kd.S_reads' HO_5.out).1; omega)); obtain ⟨ve304_0, rfl, ge304_0⟩ := hMe304; have hv304_0 := hcc304 0 _ rfl; rw [Nat.add_zero, show ((Kd.slice 3 (Kd.int .i64))).sz = 1 from rfl, Nat.mul_one] at hv304_0; replace hv304_0 := Option.some.inj (hv304_0.symm.trans hx304_0); rw [hv304_0] at ge304_0; have HL304_0 := Aside0.mk (show Kd.R (Kd.int .i64) 3 _ _ _ _ (rd_L7 x5_3 x7_2) from ge304_0); clear hv304_0 ge304_0; have HX304_0 := Aside0.mk hx304_0; clear hcc304 hce304; have HR304_0 := Aside0.mk hi304_0; have HC304_0 := Aside0.mk hl304_0; clear hi304_0 hl304_0; replace p304 := eq_true p304; replace q304 := eq_true q304; have ea_ := Option.some.inj (hx303_0.symm.trans hx304_0); (injection ea_ with ea_ en_ ec_); subst ea_; subst ec_; clear en_; have p305 : 0 ≤ ((ji40) : Int) := of_decide_eq_true (by assumption); have q305 : (ji40) < ((rd_L7 x5_3 x7_2).length : Int) := of_decide_eq_true (by assumption)
                       obtain ⟨ad305, e305, hx305_0⟩ := Kd.at_int (by repeat (first | (with_reducible exact HR304_0.out) | (with_reducible refine Kd.C_alloc ?_ _) | (with_reducible refine Kd.C_drewN ?_ _) | (with_reducible refine Kd.C_drew ?_) | exact HR304_0.out)) (ji40) p305 q305; cases e305; replace p305 := eq_true p305; replace q305 := eq_true q305; have p53 : 0 ≤ (x8_3 : Int) := of_decide_eq_true (by assumption); have q53 : (x8_3 : Int) < (((rd_L7 x5_3 x7_2).length : Int) : Int) := of_decide_eq_true (by assumption); obtain ⟨go53, co53, eo53, gb53, gl53, cl53, HG53⟩ := Kd.R_form HL303_0.out (by omega)
                       (first | cases eo53 | (injection eo53 with ea_ en_ ec_; (first | subst ea_ | (injection ea_ with ea_; subst ea_)); subst ec_; clear en_))
                       have GB53 := Aside0.mk gb53; have GG53 := Aside0.mk HG53; clear gb53 gl53 HG53
                       (first | simp only [add_plain] at hx305_0 | skip)
                       obtain ⟨hx53_0, hf53_0⟩ := Kd.R_celln 0 HL303_0.out (x8_3 : Int) p53 q53; replace p53 := eq_true p53; replace q53 := eq_true q53; have hq58 : (x7_2 : Int) < (x5_3.length : Int) := (by have h_ : (x7_2 : Int) < ((x5_3.length : Int) : Int) := of_decide_eq_true (by assumption); first | exact h_ | (have e_ := (Kd.S_reads' HO_5.out).1; omega) | simpa only [List.length_set, List.length_set] using h_); obtain ⟨oki58, ce58, hcl58, hM58, hcc58, hok58, hbk58⟩ := Kd.S_borrow HO_5.out [] (x7_2 : Int) (of_decide_eq_true (by assumption)) hq58; obtain ⟨ve58_0, rfl, ge58_0⟩ := hM58; have hv58 := hcc58 0 _ rfl; rw [Nat.add_zero, show ((Kd.slice 3 (Kd.int .i64))).sz = 1 from rfl, Nat.mul_one] at hv58; replace hv58 := Option.some.inj (hv58.symm.trans HX303_0.out); subst hv58; clear hcc58 hcl58; replace ge58_0 := (show Kd.R (Kd.int .i64) 3 _ _ _ _ (rd_L7 x5_3 x7_2) from ge58_0); have HP58 := Kd.R_putg ge58_0 (x8_3 : Int) (rd (rd_L7 x5_3 x7_2) (ji40)); rw [← Ny306.out] at HP58; have HS58 := hbk58 HP58.2 (fun k_ e_ => by injection e_ with e_; subst e_; exact ge58_0.1 _ rfl) (x' := y306) (Kd.M_row HP58.1); rw [← Ny308.out] at HS58; have HQ58 := Aside0.mk HS58; clear HP58 HS58 hbk58 hok58; refine start_ (n := 15) (S := fun w' => w'.cell? (ad293.add (x7_2).toNat) = some (.slice (some ⟨go53, 0, none⟩) (rd_L7 x5_3 x7_2).length c303_0) ∧ w'.cell? (ad293.add (x7_2).toNat) = some (.slice (some ⟨go53, 0, none⟩) (rd_L7 x5_3 x7_2).length c303_0) ∧ w'.cell? ⟨go53, ((ji40)).toNat, none⟩ = some (.int .i64 (rd (rd_L7 x5_3 x7_2) (ji40)))) (ds := [14]) #[f_, f_, f_, f_, f_, f_, f_, f_, f_, f_, f_, f_, f_, f_, f_] (by kernel_rfl) rfl rfl ⟨hx303_0, hx304_0, hx305_0⟩ (fun hHeld => ?_); refine with_tabW spec_l1Table.tab12 spec_l1Table.bits12 (fun HT_ HW_ => ?_); generalize w55.drew = w57 at HO_5 HL293_0 HL295_0 HR293_0 HR295_0 HB GG53 HL303_0 HL304_0 HQ58 HR303_0 HR304_0 HX303_0 HX304_0 hf53_0 hx303_0 hx304_0 hx305_0 hx53_0 hHeld ⊢; refine pure_ (i := 0) (N := some 37) (v := ?_) (a' := ?_) #[t_, f_, f_, f_, f_, f_, f_, f_, f_, f_, f_, f_, f_, f_, f_] rfl rfl (any_of HT_.out (by kernel_rfl)) (fun _ _ _ h => h) (Or.inl ⟨by rfl, ?_⟩) ?_ ?_
                       rotate_left
                       ·intro w'; go_simp
                        with_reducible rfl
                       rotate_left
                       ·simp only [Act.put, List.setIfInBounds_toArray, List.set_cons_zero, List.set_cons_succ, i64_w, i32_w]
                        rfl
                       refine pure_ (i := 1) (N := some 38) (v := ?_) (a' := ?_) #[t_, t_, f_, f_, f_, f_, f_, f_, f_, f_, f_, f_, f_, f_, f_] rfl rfl (any_of HT_.out (by kernel_rfl)) (fun _ _ _ h => h) (Or.inl ⟨by rfl, ?_⟩) ?_ ?_
                       rotate_left
                       ·intro w'; go_simp
                        with_reducible rfl
                       rotate_left
                       ·simp only [Act.put, List.setIfInBounds_toArray, List.set_cons_zero, List.set_cons_succ, i64_w, i32_w]
                        rfl
                       refine pure_ (i := 2) (N := some 39) (v := ?_) (a' := ?_) #[t_, t_, t_, f_, f_, f_, f_, f_, f_, f_, f_, f_, f_, f_, f_] rfl rfl (any_of HT_.out (by kernel_rfl)) (fun _ _ _ h => h) (Or.inl ⟨by rfl, ?_⟩) ?_ ?_
                       rotate_left
                       ·intro w'; go_simp
                        with_reducible rfl
                       rotate_left
                       ·simp only [Act.put, List.setIfInBounds_toArray, List.set_cons_zero, List.set_cons_succ, i64_w, i32_w]
                        rfl
                       refine pure_ (i := 4) (N := some 41) (v := ?_) (a' := ?_) #[t_, t_, t_, f_, t_, f_, f_, f_, f_, f_, f_, f_, f_, f_, f_] rfl rfl (any_of HT_.out (by kernel_rfl)) (fun _ _ _ h => h) (Or.inl ⟨by rfl, ?_⟩) ?_ ?_
                       rotate_left
                       ·intro w'; go_simp
                        with_reducible rfl
                       rotate_left
                       ·simp only [Act.put, List.setIfInBounds_toArray, List.set_cons_zero, List.set_cons_succ, i64_w, i32_w]
                        rfl
                       refine pure_ (i := 5) (N := some 42) (v := ?_) (a' := ?_) #[t_, t_, t_, f_, t_, t_, f_, f_, f_, f_, f_, f_, f_, f_, f_] rfl rfl (any_of HT_.out (by kernel_rfl)) (fun _ _ _ h => h) (Or.inl ⟨by rfl, ?_⟩) ?_ ?_
                       rotate_left
                       ·intro w'; go_simp
                        with_reducible rfl
                       rotate_left
                       ·simp only [Act.put, List.setIfInBounds_toArray, List.set_cons_zero, List.set_cons_succ, i64_w, i32_w]
                        rfl
                       refine pure_ (i := 6) (N := some 43) (v := ?_) (a' := ?_) #[t_, t_, t_, f_, t_, t_, t_, f_, f_, f_, f_, f_, f_, f_, f_] rfl rfl (any_of HT_.out (by kernel_rfl)) (fun _ _ _ h => h) (Or.inl ⟨by rfl, ?_⟩) ?_ ?_
                       rotate_left
                       ·intro w'; go_simp
                        with_reducible rfl
                       rotate_left
                       ·simp only [Act.put, List.setIfInBounds_toArray, List.set_cons_zero, List.set_cons_succ, i64_w, i32_w]
                        rfl
                       refine pure_ (i := 7) (N := some 44) (v := ?_) (a' := ?_) #[t_, t_, t_, f_, t_, t_, t_, t_, f_, f_, f_, f_, f_, f_, f_] rfl rfl (any_of HT_.out (by kernel_rfl)) (fun _ _ _ h => h) (Or.inl ⟨by rfl, ?_⟩) ?_ ?_
                       rotate_left
                       ·intro w'; go_simp
                        with_reducible rfl
                       rotate_left
                       ·simp only [Act.put, List.setIfInBounds_toArray, List.set_cons_zero, List.set_cons_succ, i64_w, i32_w]
                        rfl
                       refine pure_ (i := 9) (N := some 46) (v := ?_) (a' := ?_) #[t_, t_, t_, f_, t_, t_, t_, t_, f_, t_, f_, f_, f_, f_, f_] rfl rfl (any_of HT_.out (by kernel_rfl)) (fun _ _ _ h => h) (Or.inl ⟨by rfl, ?_⟩) ?_ ?_
                       rotate_left
                       ·intro w'; go_simp
                        with_reducible rfl
                       rotate_left
                       ·simp only [Act.put, List.setIfInBounds_toArray, List.set_cons_zero, List.set_cons_succ, i64_w, i32_w]
                        rfl
                       refine pure_ (i := 10) (N := some 47) (v := ?_) (a' := ?_) #[t_, t_, t_, f_, t_, t_, t_, t_, f_, t_, t_, f_, f_, f_, f_] rfl rfl (any_of HT_.out (by kernel_rfl)) (fun _ _ _ h => h) (Or.inl ⟨by rfl, ?_⟩) ?_ ?_
                       rotate_left
                       ·intro w'; go_simp
                        with_reducible rfl
                       rotate_left
                       ·simp only [Act.put, List.setIfInBounds_toArray, List.set_cons_zero, List.set_cons_succ, i64_w, i32_w]
                        rfl
                       refine take_ (i := 3) (N := some 40) (v := ?_) (a' := ?_) #[t_, t_, t_, t_, t_, t_, t_, t_, f_, t_, t_, f_, f_, f_, f_] rfl rfl (take_ofW HT_.out HW_.out (by kernel_rfl)) (fun _ _ _ h => h) (Or.inl ⟨by rfl, ?_⟩) hHeld ?_ ?_
                       rotate_left
                       ·rintro w' ⟨s0, s1, s2⟩; go_simp
                        with_reducible rfl
                       rotate_left
                       ·simp only [Act.put, List.setIfInBounds_toArray, List.set_cons_zero, List.set_cons_succ, i64_w, i32_w]
                        rfl
                       refine take_ (i := 8) (N := some 45) (v := ?_) (a' := ?_) #[t_, t_, t_, t_, t_, t_, t_, t_, t_, t_, t_, f_, f_, f_, f_] rfl rfl (take_ofW HT_.out HW_.out (by kernel_rfl)) (fun _ _ _ h => h) (Or.inl ⟨by rfl, ?_⟩) hHeld ?_ ?_
                       rotate_left
                       ·rintro w' ⟨s0, s1, s2⟩; go_simp
                        with_reducible rfl
                       rotate_left
                       ·simp only [Act.put, List.setIfInBounds_toArray, List.set_cons_zero, List.set_cons_succ, i64_w, i32_w]
                        rfl
                       refine pure_ (i := 11) (N := some 48) (v := ?_) (a' := ?_) #[t_, t_, t_, t_, t_, t_, t_, t_, t_, t_, t_, t_, f_, f_, f_] rfl rfl (any_of HT_.out (by kernel_rfl)) (fun _ _ _ h => h) (Or.inl ⟨by rfl, ?_⟩) ?_ ?_
                       rotate_left
                       ·intro w'; go_simp
                        with_reducible rfl
                       rotate_left
                       ·simp only [Act.put, List.setIfInBounds_toArray, List.set_cons_zero, List.set_cons_succ, i64_w, i32_w]
                        rfl
                       refine take_ (i := 12) (N := some 49) (v := ?_) (a' := ?_) #[t_, t_, t_, t_, t_, t_, t_, t_, t_, t_, t_, t_, t_, f_, f_] rfl rfl (take_ofW HT_.out HW_.out (by kernel_rfl)) (fun _ _ _ h => h) (Or.inl ⟨by rfl, ?_⟩) hHeld ?_ ?_
                       rotate_left
                       ·rintro w' ⟨s0, s1, s2⟩; go_simp
                        with_reducible rfl
                       rotate_left
                       ·simp only [Act.put, List.setIfInBounds_toArray, List.set_cons_zero, List.set_cons_succ, i64_w, i32_w]
                        rfl
                       refine pure_ (i := 13) (N := some 50) (v := ?_) (a' := ?_) #[t_, t_, t_, t_, t_, t_, t_, t_, t_, t_, t_, t_, t_, t_, f_] rfl rfl (any_of HT_.out (by kernel_rfl)) (fun _ _ _ h => h) (Or.inl ⟨by rfl, ?_⟩) ?_ ?_
                       rotate_left
                       ·intro w'; go_simp
                        with_reducible rfl
                       rotate_left
                       ·simp only [Act.put, List.setIfInBounds_toArray, List.set_cons_zero, List.set_cons_succ, i64_w, i32_w]
                        rfl
                       refine last_ (i := 14) (N := none) #[t_, t_, t_, t_, t_, t_, t_, t_, t_, t_, t_, t_, t_, t_, t_] rfl rfl (one_of HT_.out (by kernel_rfl)) (by decide) (fun K hK => ?_); refine skip_ (w1 := ?_) (by rfl) rfl ?_ ?_
                       rotate_left
                       ·go_simp
                        rfl
                       refine hK.out _ _ ?_; clear hK K; refine done_ (done_of HT_.out (by kernel_rfl)) ?_; (try go_wp2); go_roundg k3
                       case measure => have := HK1.out; have := HK2.out; have := HK3.out; omega
                       case rel => exact ⟨(y308), (wrap64 (x8_3 - 1)), (by first | rfl | (simp; done) | (simp [*]; done)), H', ⟨by have := HK1.out; have := HK2.out; have := HK3.out; omega⟩, ⟨by (with_reducible repeat (first | apply Kd.S_alloc | apply Kd.S_drewN | apply Kd.S_drew)); exact HQ58.out⟩, ⟨by repeat (first | (with_reducible first | exact HB.out | apply below_alloc | apply pw_below_drewN | apply below_drew1 | refine below_set ?_ GB53.out) | exact HB.out)⟩⟩
                      ·rw [if_neg c52] at H; exact absurd H (by simp)
                    ·rw [if_neg c42] at H; exact absurd H (by simp)
                   ·rw [if_neg c41] at H; exact absurd H (by simp)
                  ·rw [if_neg c39] at H; exact absurd H (by simp)
                 ·rw [if_neg c38] at H; exact absurd H (by simp)
                ·rw [if_neg c37] at H; exact absurd H (by simp)
               ·rw [if_neg c36] at H; exact absurd H (by simp)
             ·rw [if_neg c19] at H; exact absurd H (by simp)
            ·rw [if_neg c18] at H; exact absurd H (by simp)
           ·rw [if_neg c17] at H; exact absurd H (by simp)
          ·rw [if_neg c16] at H; exact absurd H (by simp)
         ·rw [if_neg c15] at H; have c15b0 : decide (0 ≤ x8_3) = false := decide_eq_false c15; clear c15; have H' := Aside0.mk H; clear H; go_wp2; go_roundg k3
          case measure => have := HK1.out; have := HK2.out; have := HK3.out; omega
          case rel => exact ⟨(x5_3), (wrap64 (x7_2 - 1)), (by first | rfl | (simp; done) | (simp [*]; done)), H', ⟨by have := HK1.out; have := HK2.out; have := HK3.out; omega⟩, ⟨by (with_reducible repeat (first | apply Kd.S_alloc | apply Kd.S_drewN | apply Kd.S_drew)); exact HO_5.out⟩, ⟨by repeat (first | (with_reducible first | exact HB.out | apply below_alloc | apply pw_below_drewN | apply below_drew1) | exact HB.out)⟩⟩
      ·rw [if_neg c14] at H; have c14b0 : decide (0 ≤ x7_2) = false := decide_eq_false c14; clear c14; obtain rfl := Option.some.inj H; go_wp2; go_ret; exact ⟨_, by first | rfl | (simp <;> rfl) | (simp [*] <;> rfl), by (with_reducible repeat (first | apply Kd.S_alloc | apply Kd.S_drewN | apply Kd.S_drew)); exact HO_5.out, by repeat (first | (with_reducible first | exact HB.out | apply below_alloc | apply pw_below_drewN | apply below_drew1) | exact HB.out)⟩
end Go.Proofs.Ytfpdkeolecmepaa.Q
end
section
namespace Go.Proofs.Ytfpdkeolecmepaa.Q
open Go.RowKit Go.Proofs.YtfpdkeolecmepaaW.PrintWords Go.Proofs.YtfpdkeolecmepaaW.PrintLast Go.Proofs.YtfpdkeolecmepaaW.PrintMore
attribute [local go_sem] max2_int min2_int max_two min_two max_three min_three max_four min_four   -- for this text's walks alone
set_option linter.unusedVariables false
set_option linter.unusedSimpArgs false
mutual
def spec_l1Match.l0 : Nat → List ByteArray → List ByteArray → List (List Int) → List Int → Int → Int → Option (List Int)
 | 0, _, _, _, _, _, _ => none
 | k + 1, x0, x1, x5, x6, x7, x8 => if x8 < (x0.length : Int) then (if x7 < (x1.length : Int) then (if 0 ≤ x8 then (if 0 ≤ x7 then (spec_l1Match.j1 k x0 x1 x5 x6 x7 x8 ((rdOf ByteArray.empty x0 x8).toList == (rdOf ByteArray.empty x1 x7).toList)) else (none)) else (none)) else (spec_l1Match.j1 k x0 x1 x5 x6 x7 x8 false)) else (some x6)
def spec_l1Match.j1 : Nat → List ByteArray → List ByteArray → List (List Int) → List Int → Int → Int → Bool → Option (List Int)
 | 0, _, _, _, _, _, _, _ => none
 | k + 1, x0, x1, x5, x6, x7, x8, x19 => if x19 = true then (if x6.length < 17592186044416 then (spec_l1Match.l0 k x0 x1 x5 (x6 ++ [x7]) (wrap64 (x7 + 1)) (wrap64 (x8 + 1))) else (none)) else (if x7 ≥ (x1.length : Int) then (if x6.length < 17592186044416 then (spec_l1Match.l0 k x0 x1 x5 (x6 ++ [(-1)]) x7 (wrap64 (x8 + 1))) else (none)) else (if 0 ≤ (wrap64 (x8 + 1)) then (if (wrap64 (x8 + 1)) < (x5.length : Int) then (if 0 ≤ x7 then (if x7 < ((rd_L7 x5 (wrap64 (x8 + 1))).length : Int) then (if 0 ≤ x8 then (if x8 < (x5.length : Int) then (if 0 ≤ (wrap64 (x7 + 1)) then (if (wrap64 (x7 + 1)) < ((rd_L7 x5 x8).length : Int) then (if (rd (rd_L7 x5 (wrap64 (x8 + 1))) x7) ≥ (rd (rd_L7 x5 x8) (wrap64 (x7 + 1))) then (if x6.length < 17592186044416 then (spec_l1Match.l0 k x0 x1 x5 (x6 ++ [(-1)]) x7 (wrap64 (x8 + 1))) else (none)) else (spec_l1Match.l0 k x0 x1 x5 x6 (wrap64 (x7 + 1)) x8)) else (none)) else (none)) else (none)) else (none)) else (none)) else (none)) else (none)) else (none)))
end
def spec_l1Match.f (k : Nat) (l0 : List ByteArray) (l1 : List ByteArray) : Option (List Int) := (spec_l1Table.f k l0 l1).bind fun t309 => (spec_l1Match.l0 k l0 l1 t309 (([] : List Int)) 0 0)
set_option maxHeartbeats 8000000 in
set_option maxRecDepth 100000 in
theorem spec_l1Match.calls (k : Nat) (A0 : Option Addr) (c0 : Nat) (l0 : List ByteArray) (A1 : Option Addr) (c1 : Nat) (l1 : List ByteArray) (r : List Int) (w : World) (hr0 : Kd.C Kd.string w A0 l0.length l0) (hc0 : l0.length ≤ c0) (hr1 : Kd.C Kd.string w A1 l1.length l1) (hc1 : l1.length ≤ c1) (h : spec_l1Match.f k l0 l1 = some r) :
 Calls Try.prog 83 #[.slice A0 l0.length c0, .slice A1 l1.length c1] w fun e w' => ∃ v0_ : Value, e = .returned (v0_) ∧ Kd.R (Kd.int .i64) 3 w' w.heap.size (fun _ => True) v0_ r ∧ Below w.heap.size w w' := by
 have HR0 := Aside0.mk hr0; have HC0 := Aside0.mk hc0; clear hr0 hc0; have HR1 := Aside0.mk hr1; have HC1 := Aside0.mk hc1; clear hr1 hc1; have HB := Aside0.mk (Below.refl w.heap.size w); have H : ((spec_l1Table.f k l0 l1).bind fun t309 => (spec_l1Match.l0 k l0 l1 t309 (([] : List Int)) 0 0)) = some r := h; clear h; replace H := Option.bind_eq_some_iff.mp H; obtain ⟨t309, A30, H⟩ := H; replace H : (spec_l1Match.l0 k l0 l1 t309 (([] : List Int)) 0 0) = some r := H; have A3 := Aside0.mk A30; clear A30; obtain ⟨y312, hy312⟩ : ∃ y_ : List Int, y_ = (([] : List Int)) := ⟨_, rfl⟩; (replace H : (spec_l1Match.l0 k l0 l1 t309 y312 0 0) = some r := by first | (rw [hy312]; with_reducible exact H) | (have H2_ := (Option.bind_some _ _).symm.trans H; rw [hy312]; with_reducible exact H2_) | (have H2_ := (Option.bind_some _ _).symm.trans H; with_reducible exact H2_) | with_reducible exact H | (rw [hy312]; exact H) | exact H); have Ny312 := Aside0.mk hy312; clear hy312; have H' := Aside0.mk H; clear H; go_enter Try.func83, Try.ntmps83; go_wp2_with (first | (go_at_call 95; (with_reducible refine (spec_l1Table.calls k _ _ l0 _ _ l1 t309 _ ?side1 ?side2 ?side3 ?side4 A3.out).mono ?_); (case side1 => repeat (first | exact HR0.out | (with_reducible refine Kd.C_alloc ?_ _) | (with_reducible refine Kd.C_drewN ?_ _) | (with_reducible refine Kd.C_drew ?_))); (case side2 => exact HC0.out); (case side3 => repeat (first | exact HR1.out | (with_reducible refine Kd.C_alloc ?_ _) | (with_reducible refine Kd.C_drewN ?_ _) | (with_reducible refine Kd.C_drew ?_))); (case side4 => exact HC1.out); rintro e w4 ⟨v310, rfl, ho0, hb⟩; have n0_ := Aside0.mk (Kd.S_lower ho0 (below_size (by repeat (first | (with_reducible first | exact HB.out | apply below_alloc | apply pw_below_drewN | apply below_drew1) | exact HB.out)))); have n1_ := Aside0.mk (below_step (by repeat (first | (with_reducible first | exact HB.out | apply below_alloc | apply pw_below_drewN | apply below_drew1) | exact HB.out)) hb); clear HB; have HO311 := n0_; have HB := n1_; clear n0_ n1_; (try clear hb); (try clear hb2); (try clear hk); (try clear hi); (try clear ho0)) | ((with_reducible refine gate_dst (N := 12) rfl ?_); refine Kd.R_lit (Kd.int .i64) _ 3 ?hg (N := 12) ?hd (xs := ([] : List Int)) (inner := []) (ok := fun _ => True) (okp := fun _ => True) ?hr ?hp (fun _ hk => hk) trivial (Below.refl _ _) (Nat.le_refl _) (by simp) ?_; (case hd => rfl); (case hg => rfl); (case hr => first | (go_simp; done) | (go_simp; rfl)); (case hp => exact (Reps.none _ _)); intro v313 w5 ho6 hb hg_ hnew_; clear hg_ hnew_; (first | rw [← Ny312.out] at ho6 | (simp only [Int.reduceToNat] at ho6; rw [← Ny312.out] at ho6)); have n0_ := Aside0.mk (Kd.S_elder' (by (with_reducible repeat (first | apply Kd.S_alloc | apply Kd.S_drewN | apply Kd.S_drew)); exact HO311.out) (Kd.R_base ho6) hb); have n1_ := Aside0.mk (Kd.R_lower ho6 (below_size (by repeat (first | (with_reducible first | exact HB.out | apply below_alloc | apply pw_below_drewN | apply below_drew1) | exact HB.out)))); have n2_ := Aside0.mk (below_step (by repeat (first | (with_reducible first | exact HB.out | apply below_alloc | apply pw_below_drewN | apply below_drew1) | exact HB.out)) hb); clear HO311; clear HB; have HO311 := n0_; have HO314 := n1_; have HB := n2_; clear n0_ n1_ n2_; clear hb ho6))
 repeat (go_quiet (first | (go_at_call 95; (with_reducible refine (spec_l1Table.calls k _ _ l0 _ _ l1 t309 _ ?side1 ?side2 ?side3 ?side4 A3.out).mono ?_); (case side1 => repeat (first | exact HR0.out | (with_reducible refine Kd.C_alloc ?_ _) | (with_reducible refine Kd.C_drewN ?_ _) | (with_reducible refine Kd.C_drew ?_))); (case side2 => exact HC0.out); (case side3 => repeat (first | exact HR1.out | (with_reducible refine Kd.C_alloc ?_ _) | (with_reducible refine Kd.C_drewN ?_ _) | (with_reducible refine Kd.C_drew ?_))); (case side4 => exact HC1.out); rintro e w4 ⟨v310, rfl, ho0, hb⟩; have n0_ := Aside0.mk (Kd.S_lower ho0 (below_size (by repeat (first | (with_reducible first | exact HB.out | apply below_alloc | apply pw_below_drewN | apply below_drew1) | exact HB.out)))); have n1_ := Aside0.mk (below_step (by repeat (first | (with_reducible first | exact HB.out | apply below_alloc | apply pw_below_drewN | apply below_drew1) | exact HB.out)) hb); clear HB; have HO311 := n0_; have HB := n1_; clear n0_ n1_; (try clear hb); (try clear hb2); (try clear hk); (try clear hi); (try clear ho0)) | ((with_reducible refine gate_dst (N := 12) rfl ?_); refine Kd.R_lit (Kd.int .i64) _ 3 ?hg (N := 12) ?hd (xs := ([] : List Int)) (inner := []) (ok := fun _ => True) (okp := fun _ => True) ?hr ?hp (fun _ hk => hk) trivial (Below.refl _ _) (Nat.le_refl _) (by simp) ?_; (case hd => rfl); (case hg => rfl); (case hr => first | (go_simp; done) | (go_simp; rfl)); (case hp => exact (Reps.none _ _)); intro v313 w5 ho6 hb hg_ hnew_; clear hg_ hnew_; (first | rw [← Ny312.out] at ho6 | (simp only [Int.reduceToNat] at ho6; rw [← Ny312.out] at ho6)); have n0_ := Aside0.mk (Kd.S_elder' (by (with_reducible repeat (first | apply Kd.S_alloc | apply Kd.S_drewN | apply Kd.S_drew)); exact HO311.out) (Kd.R_base ho6) hb); have n1_ := Aside0.mk (Kd.R_lower ho6 (below_size (by repeat (first | (with_reducible first | exact HB.out | apply below_alloc | apply pw_below_drewN | apply below_drew1) | exact HB.out)))); have n2_ := Aside0.mk (below_step (by repeat (first | (with_reducible first | exact HB.out | apply below_alloc | apply pw_below_drewN | apply below_drew1) | exact HB.out)) hb); clear HO311; clear HB; have HO311 := n0_; have HO314 := n1_; have HB := n2_; clear n0_ n1_ n2_; clear hb ho6)); try go_wp2_with (first | (go_at_call 95; (with_reducible refine (spec_l1Table.calls k _ _ l0 _ _ l1 t309 _ ?side1 ?side2 ?side3 ?side4 A3.out).mono ?_); (case side1 => repeat (first | exact HR0.out | (with_reducible refine Kd.C_alloc ?_ _) | (with_reducible refine Kd.C_drewN ?_ _) | (with_reducible refine Kd.C_drew ?_))); (case side2 => exact HC0.out); (case side3 => repeat (first | exact HR1.out | (with_reducible refine Kd.C_alloc ?_ _) | (with_reducible refine Kd.C_drewN ?_ _) | (with_reducible refine Kd.C_drew ?_))); (case side4 => exact HC1.out); rintro e w4 ⟨v310, rfl, ho0, hb⟩; have n0_ := Aside0.mk (Kd.S_lower ho0 (below_size (by repeat (first | (with_reducible first | exact HB.out | apply below_alloc | apply pw_below_drewN | apply below_drew1) | exact HB.out)))); have n1_ := Aside0.mk (below_step (by repeat (first | (with_reducible first | exact HB.out | apply below_alloc | apply pw_below_drewN | apply below_drew1) | exact HB.out)) hb); clear HB; have HO311 := n0_; have HB := n1_; clear n0_ n1_; (try clear hb); (try clear hb2); (try clear hk); (try clear hi); (try clear ho0)) | ((with_reducible refine gate_dst (N := 12) rfl ?_); refine Kd.R_lit (Kd.int .i64) _ 3 ?hg (N := 12) ?hd (xs := ([] : List Int)) (inner := []) (ok := fun _ => True) (okp := fun _ => True) ?hr ?hp (fun _ hk => hk) trivial (Below.refl _ _) (Nat.le_refl _) (by simp) ?_; (case hd => rfl); (case hg => rfl); (case hr => first | (go_simp; done) | (go_simp; rfl)); (case hp => exact (Reps.none _ _)); intro v313 w5 ho6 hb hg_ hnew_; clear hg_ hnew_; (first | rw [← Ny312.out] at ho6 | (simp only [Int.reduceToNat] at ho6; rw [← Ny312.out] at ho6)); have n0_ := Aside0.mk (Kd.S_elder' (by (with_reducible repeat (first | apply Kd.S_alloc | apply Kd.S_drewN | apply Kd.S_drew)); exact HO311.out) (Kd.R_base ho6) hb); have n1_ := Aside0.mk (Kd.R_lower ho6 (below_size (by repeat (first | (with_reducible first | exact HB.out | apply below_alloc | apply pw_below_drewN | apply below_drew1) | exact HB.out)))); have n2_ := Aside0.mk (below_step (by repeat (first | (with_reducible first | exact HB.out | apply below_alloc | apply pw_below_drewN | apply below_drew1) | exact HB.out)) hb); clear HO311; clear HB; have HO311 := n0_; have HO314 := n1_; have HB := n2_; clear n0_ n1_ n2_; clear hb ho6)))
 go_loopg [6, 7, 8] k (fun kq v6 v7 v8 w' => ∃ (x6_1 : List Int) (x7_1 : Int) (x8_1 : Int), v7 = .int .i64 x7_1 ∧ v8 = .int .i64 x8_1 ∧ Aside0 (spec_l1Match.l0 kq l0 l1 t309 x6_1 x7_1 x8_1 = some r) ∧ Aside0 (kq ≤ k) ∧ Aside0 (Kd.S (Kd.slice 3 (Kd.int .i64)) 80 w' w.heap.size (fun k_ => some k_ ≠ (v6 : Value).ownBlock) v310 t309) ∧ Aside0 (Kd.R (Kd.int .i64) 3 w' w.heap.size (fun _ => True) v6 x6_1) ∧ Aside0 (Below w.heap.size w w'))
 case atStart => exact ⟨(y312), (0), (0), (by first | rfl | (simp; done) | (simp [*]; done)), (by first | rfl | (simp; done) | (simp [*]; done)), H', ⟨Nat.le_refl _⟩, ⟨by (with_reducible repeat (first | apply Kd.S_alloc | apply Kd.S_drewN | apply Kd.S_drew)); exact Kd.S_mono HO311.out (fun _ hk => hk.2)⟩, ⟨by (with_reducible repeat (first | apply Kd.R_alloc | apply Kd.R_drewN | apply Kd.R_drew)); exact HO314.out⟩, ⟨by repeat (first | (with_reducible first | exact HB.out | apply below_alloc | apply pw_below_drewN | apply below_drew1) | exact HB.out)⟩⟩
 case round =>
  clear H'; (try clear c1); (try clear p2); obtain ⟨x6_1, x7_1, x8_1, rfl, rfl, HA, HK1, HO_5, HO_6, HB⟩ := hrel
  cases gk with
  | zero => exact absurd HA.out (by simp [spec_l1Match.l0])
  | succ k1 =>
   have H := HA.out; clear HA; simp only [spec_l1Match.l0] at H; by_cases c7 : x8_1 < (l0.length : Int)
   ·rw [if_pos c7] at H; have c7b0 : decide (x8_1 < (l0.length : Int)) = true := decide_eq_true c7; clear c7; have HC8 := Aside0.mk H; clear H; (go_upto_region 7 with (fail)); (repeat (go_quiet (fail); go_upto_region 7 with (fail))); go_cut [19] (fun v19 wc => ∃ (kq : Nat) (x19_7 : Bool), v19 = .bool x19_7 ∧ Aside0 (spec_l1Match.j1 kq l0 l1 t309 x6_1 x7_1 x8_1 x19_7 = some r) ∧ Aside0 (kq ≤ k1) ∧ Aside0 (Kd.S (Kd.slice 3 (Kd.int .i64)) 80 wc w.heap.size (fun k_ => some k_ ≠ (u6 : Value).ownBlock) v310 t309) ∧ Aside0 (Kd.R (Kd.int .i64) 3 wc w.heap.size (fun _ => True) u6 x6_1) ∧ Aside0 (Below w.heap.size w wc))
    case first =>
     have H := HC8.out; clear HC8; by_cases c9 : x7_1 < (l1.length : Int)
     ·rw [if_pos c9] at H; have c9b0 : decide (x7_1 < (l1.length : Int)) = true := decide_eq_true c9; clear c9
      (first | rw [c9b0] | (simp only [i64_w, i32_w]; rw [c9b0]) | skip)
      by_cases c10 : 0 ≤ x8_1
      ·rw [if_pos c10] at H; have c10b0 : decide (0 ≤ x8_1) = true := decide_eq_true c10; clear c10; by_cases c11 : 0 ≤ x7_1
       ·rw [if_pos c11] at H; have c11b0 : decide (0 ≤ x7_1) = true := decide_eq_true c11; clear c11; have H' := Aside0.mk H; clear H; have p315 : 0 ≤ (x8_1 : Int) := of_decide_eq_true (by assumption); have q315 : x8_1 < (l0.length : Int) := of_decide_eq_true (by assumption); obtain ⟨ad315, e315, hx315_0⟩ := Kd.at_string HR0.out x8_1 p315 q315; cases e315; replace hx315_0 := (HB.out.cell (World.block_lt_of_cell? w _ hx315_0)).trans hx315_0; replace p315 := eq_true p315; replace q315 := eq_true q315; have p316 : 0 ≤ (x7_1 : Int) := of_decide_eq_true (by assumption); have q316 : x7_1 < (l1.length : Int) := of_decide_eq_true (by assumption); obtain ⟨ad316, e316, hx316_0⟩ := Kd.at_string HR1.out x7_1 p316 q316; cases e316; replace hx316_0 := (HB.out.cell (World.block_lt_of_cell? w _ hx316_0)).trans hx316_0; replace p316 := eq_true p316; replace q316 := eq_true q316; go_wp2; (repeat (go_quiet (fail); try go_wp2)); go_meet
        case rel => exact ⟨_, (((rdOf ByteArray.empty l0 x8_1).toList == (rdOf ByteArray.empty l1 x7_1).toList)), (by first | rfl | (simp; done) | (simp [*]; done)), H', ⟨by have := HK1.out; first | omega | exact Nat.le_refl _⟩, ⟨by (with_reducible repeat (first | apply Kd.S_alloc | apply Kd.S_drewN | apply Kd.S_drew)); exact HO_5.out⟩, ⟨by (with_reducible repeat (first | apply Kd.R_alloc | apply Kd.R_drewN | apply Kd.R_drew)); exact HO_6.out⟩, ⟨by repeat (first | (with_reducible first | exact HB.out | apply below_alloc | apply pw_below_drewN | apply below_drew1) | exact HB.out)⟩⟩
       ·rw [if_neg c11] at H; exact absurd H (by simp)
      ·rw [if_neg c10] at H; exact absurd H (by simp)
     ·rw [if_neg c9] at H; have c9b0 : decide (x7_1 < (l1.length : Int)) = false := decide_eq_false c9; clear c9
      (first | rw [c9b0] | (simp only [i64_w, i32_w]; rw [c9b0]) | skip)
      have H' := Aside0.mk H; clear H; go_wp2; (repeat (go_quiet (fail); try go_wp2)); go_meet
      case rel => exact ⟨_, (false), (by first | rfl | (simp; done) | (simp [*]; done)), H', ⟨by have := HK1.out; first | omega | exact Nat.le_refl _⟩, ⟨by (with_reducible repeat (first | apply Kd.S_alloc | apply Kd.S_drewN | apply Kd.S_drew)); exact HO_5.out⟩, ⟨by (with_reducible repeat (first | apply Kd.R_alloc | apply Kd.R_drewN | apply Kd.R_drew)); exact HO_6.out⟩, ⟨by repeat (first | (with_reducible first | exact HB.out | apply below_alloc | apply pw_below_drewN | apply below_drew1) | exact HB.out)⟩⟩
    case rest =>
     clear HC8; (try clear c1); (try clear p2); (try clear p3); (try clear q3); (try clear hx3); (try clear c7); (try clear c7b0); (try clear c8); (try clear c9); (try clear c9b0); (try clear c10); (try clear c10b0); (try clear c11); (try clear c11b0); (try clear hx315_0); (try clear hx316_0); (try clear p2); (try clear p315); (try clear p316); (try clear q315); (try clear q316); obtain ⟨kq, x19_7, rfl, HA, HJ7, HO_5, HO_6, HB⟩ := hcut
     cases kq with
     | zero => exact absurd HA.out (by simp [spec_l1Match.j1])
     | succ kj7 =>
      have H := HA.out; clear HA; simp only [spec_l1Match.j1] at H; by_cases c12 : x19_7 = true
      ·subst c12; (have H1 : (if x6_1.length < 17592186044416 then (spec_l1Match.l0 kj7 l0 l1 t309 (x6_1 ++ [x7_1]) (wrap64 (x7_1 + 1)) (wrap64 (x8_1 + 1))) else (none)) = some r := by rw [if_pos rfl] at H; exact H); clear H; have H := H1; clear H1; by_cases c13 : x6_1.length < 17592186044416
       ·rw [if_pos c13] at H; have LMc13 := Aside0.mk c13; clear c13; obtain ⟨y317, hy317⟩ : ∃ y_ : List Int, y_ = (x6_1 ++ [x7_1]) := ⟨_, rfl⟩; (replace H : (spec_l1Match.l0 kj7 l0 l1 t309 y317 (wrap64 (x7_1 + 1)) (wrap64 (x8_1 + 1))) = some r := by first | (rw [hy317]; with_reducible exact H) | (have H2_ := (Option.bind_some _ _).symm.trans H; rw [hy317]; with_reducible exact H2_) | (have H2_ := (Option.bind_some _ _).symm.trans H; with_reducible exact H2_) | with_reducible exact H | (rw [hy317]; exact H) | exact H); have Ny317 := Aside0.mk hy317; clear hy317; have H' := Aside0.mk H; clear H; go_wp2_with (first | ((with_reducible refine gate_builtin (b := .append) (xs := #[.tmp 35, .tmp 37]) rfl ?_); at_builtin; refine Kd.R_append (Kd.int .i64) (w0 := w) w.heap.size rfl (.tmp 35) (.tmp 37) 80 3 (.int .i64 0) 8 rfl Try.underlying80 info3 rfl (by decide) (by omega) u6 x6_1 x7_1 [.int .i64 x7_1] (fun _ => True) (fun _ => False) rfl rfl ?aP (fun _ hk => hk.elim) ?aF ?aO ?aB ?aS ?aL ?_; (case aP => exact rfl); (case aB => exact (by repeat (first | (with_reducible first | exact HB.out | apply below_alloc | apply pw_below_drewN | apply below_drew1) | exact HB.out))); (case aF => exact (fun _ _ => trivial)); (case aO => exact (by (with_reducible repeat (first | apply Kd.R_alloc | apply Kd.R_drewN | apply Kd.R_drew)); exact HO_6.out)); (case aS => exact (below_size (by repeat (first | (with_reducible first | exact HB.out | apply below_alloc | apply pw_below_drewN | apply below_drew1) | exact HB.out)))); (case aL => have := LMc13.out; omega); intro v318 w14 ho hb hg hat; rw [← Ny317.out] at ho; have n0_ := Aside0.mk (Kd.S_after (ok := (fun _ => True)) (by (with_reducible repeat (first | apply Kd.S_alloc | apply Kd.S_drewN | apply Kd.S_drew)); exact Kd.S_mono HO_5.out (fun _ hk => ⟨trivial, hk⟩)) hg hat); have n1_ := Aside0.mk (hb); have n2_ := Aside0.mk (ho); clear HO_5; clear HB; clear HO_6; have HO_5 := n0_; have HB := n1_; have HO319 := n2_; clear n0_ n1_ n2_; clear ho hb hg hat)); (repeat (go_quiet (first | ((with_reducible refine gate_builtin (b := .append) (xs := #[.tmp 35, .tmp 37]) rfl ?_); at_builtin; refine Kd.R_append (Kd.int .i64) (w0 := w) w.heap.size rfl (.tmp 35) (.tmp 37) 80 3 (.int .i64 0) 8 rfl Try.underlying80 info3 rfl (by decide) (by omega) u6 x6_1 x7_1 [.int .i64 x7_1] (fun _ => True) (fun _ => False) rfl rfl ?aP (fun _ hk => hk.elim) ?aF ?aO ?aB ?aS ?aL ?_; (case aP => exact rfl); (case aB => exact (by repeat (first | (with_reducible first | exact HB.out | apply below_alloc | apply pw_below_drewN | apply below_drew1) | exact HB.out))); (case aF => exact (fun _ _ => trivial)); (case aO => exact (by (with_reducible repeat (first | apply Kd.R_alloc | apply Kd.R_drewN | apply Kd.R_drew)); exact HO_6.out)); (case aS => exact (below_size (by repeat (first | (with_reducible first | exact HB.out | apply below_alloc | apply pw_below_drewN | apply below_drew1) | exact HB.out)))); (case aL => have := LMc13.out; omega); intro v318 w14 ho hb hg hat; rw [← Ny317.out] at ho; have n0_ := Aside0.mk (Kd.S_after (ok := (fun _ => True)) (by (with_reducible repeat (first | apply Kd.S_alloc | apply Kd.S_drewN | apply Kd.S_drew)); exact Kd.S_mono HO_5.out (fun _ hk => ⟨trivial, hk⟩)) hg hat); have n1_ := Aside0.mk (hb); have n2_ := Aside0.mk (ho); clear HO_5; clear HB; clear HO_6; have HO_5 := n0_; have HB := n1_; have HO319 := n2_; clear n0_ n1_ n2_; clear ho hb hg hat)); try go_wp2_with (first | ((with_reducible refine gate_builtin (b := .append) (xs := #[.tmp 35, .tmp 37]) rfl ?_); at_builtin; refine Kd.R_append (Kd.int .i64) (w0 := w) w.heap.size rfl (.tmp 35) (.tmp 37) 80 3 (.int .i64 0) 8 rfl Try.underlying80 info3 rfl (by decide) (by omega) u6 x6_1 x7_1 [.int .i64 x7_1] (fun _ => True) (fun _ => False) rfl rfl ?aP (fun _ hk => hk.elim) ?aF ?aO ?aB ?aS ?aL ?_; (case aP => exact rfl); (case aB => exact (by repeat (first | (with_reducible first | exact HB.out | apply below_alloc | apply pw_below_drewN | apply below_drew1) | exact HB.out))); (case aF => exact (fun _ _ => trivial)); (case aO => exact (by (with_reducible repeat (first | apply Kd.R_alloc | apply Kd.R_drewN | apply Kd.R_drew)); exact HO_6.out)); (case aS => exact (below_size (by repeat (first | (with_reducible first | exact HB.out | apply below_alloc | apply pw_below_drewN | apply below_drew1) | exact HB.out)))); (case aL => have := LMc13.out; omega); intro v318 w14 ho hb hg hat; rw [← Ny317.out] at ho; have n0_ := Aside0.mk (Kd.S_after (ok := (fun _ => True)) (by (with_reducible repeat (first | apply Kd.S_alloc | apply Kd.S_drewN | apply Kd.S_drew)); exact Kd.S_mono HO_5.out (fun _ hk => ⟨trivial, hk⟩)) hg hat); have n1_ := Aside0.mk (hb); have n2_ := Aside0.mk (ho); clear HO_5; clear HB; clear HO_6; have HO_5 := n0_; have HB := n1_; have HO319 := n2_; clear n0_ n1_ n2_; clear ho hb hg hat))))
        go_roundg kj7
        case measure => have := HK1.out; have := HJ7.out; omega
        case rel => exact ⟨(y317), (wrap64 (x7_1 + 1)), (wrap64 (x8_1 + 1)), (by first | rfl | (simp; done) | (simp [*]; done)), (by first | rfl | (simp; done) | (simp [*]; done)), H', ⟨by have := HK1.out; have := HJ7.out; omega⟩, ⟨by (with_reducible repeat (first | apply Kd.S_alloc | apply Kd.S_drewN | apply Kd.S_drew)); exact Kd.S_mono HO_5.out (fun _ hk => hk.2)⟩, ⟨by (with_reducible repeat (first | apply Kd.R_alloc | apply Kd.R_drewN | apply Kd.R_drew)); exact HO319.out⟩, ⟨by repeat (first | (with_reducible first | exact HB.out | apply below_alloc | apply pw_below_drewN | apply below_drew1) | exact HB.out)⟩⟩
       ·rw [if_neg c13] at H; exact absurd H (by simp)
      ·replace c12 := Bool.eq_false_iff.mpr c12; subst c12; (have H1 : (if x7_1 ≥ (l1.length : Int) then (if x6_1.length < 17592186044416 then (spec_l1Match.l0 kj7 l0 l1 t309 (x6_1 ++ [(-1)]) x7_1 (wrap64 (x8_1 + 1))) else (none)) else (if 0 ≤ (wrap64 (x8_1 + 1)) then (if (wrap64 (x8_1 + 1)) < (t309.length : Int) then (if 0 ≤ x7_1 then (if x7_1 < ((rd_L7 t309 (wrap64 (x8_1 + 1))).length : Int) then (if 0 ≤ x8_1 then (if x8_1 < (t309.length : Int) then (if 0 ≤ (wrap64 (x7_1 + 1)) then (if (wrap64 (x7_1 + 1)) < ((rd_L7 t309 x8_1).length : Int) then (if (rd (rd_L7 t309 (wrap64 (x8_1 + 1))) x7_1) ≥ (rd (rd_L7 t309 x8_1) (wrap64 (x7_1 + 1))) then (if x6_1.length < 17592186044416 then (spec_l1Match.l0 kj7 l0 l1 t309 (x6_1 ++ [(-1)]) x7_1 (wrap64 (x8_1 + 1))) else (none)) else (spec_l1Match.l0 kj7 l0 l1 t309 x6_1 (wrap64 (x7_1 + 1)) x8_1)) else (none)) else (none)) else (none)) else (none)) else (none)) else (none)) else (none)) else (none))) = some r := by rw [if_neg (show ¬ (false = true) by decide)] at H; exact H); clear H; have H := H1; clear H1; by_cases c15 : x7_1 ≥ (l1.length : Int)
       ·rw [if_pos c15] at H; have c15b0 : decide ((l1.length : Int) ≤ x7_1) = true := decide_eq_true c15; clear c15; by_cases c16 : x6_1.length < 17592186044416
        ·rw [if_pos c16] at H; have LMc16 := Aside0.mk c16; clear c16; obtain ⟨y320, hy320⟩ : ∃ y_ : List Int, y_ = (x6_1 ++ [(-1)]) := ⟨_, rfl⟩; (replace H : (spec_l1Match.l0 kj7 l0 l1 t309 y320 x7_1 (wrap64 (x8_1 + 1))) = some r := by first | (rw [hy320]; with_reducible exact H) | (have H2_ := (Option.bind_some _ _).symm.trans H; rw [hy320]; with_reducible exact H2_) | (have H2_ := (Option.bind_some _ _).symm.trans H; with_reducible exact H2_) | with_reducible exact H | (rw [hy320]; exact H) | exact H); have Ny320 := Aside0.mk hy320; clear hy320; have H' := Aside0.mk H; clear H; go_wp2_with (first | ((with_reducible refine gate_builtin (b := .append) (xs := #[.tmp 67, .tmp 68]) rfl ?_); at_builtin; refine Kd.R_append (Kd.int .i64) (w0 := w) w.heap.size rfl (.tmp 67) (.tmp 68) 80 3 (.int .i64 0) 8 rfl Try.underlying80 info3 rfl (by decide) (by omega) u6 x6_1 (-1) [.int .i64 (-1)] (fun _ => True) (fun _ => False) rfl rfl ?aP (fun _ hk => hk.elim) ?aF ?aO ?aB ?aS ?aL ?_; (case aP => exact rfl); (case aB => exact (by repeat (first | (with_reducible first | exact HB.out | apply below_alloc | apply pw_below_drewN | apply below_drew1) | exact HB.out))); (case aF => exact (fun _ _ => trivial)); (case aO => exact (by (with_reducible repeat (first | apply Kd.R_alloc | apply Kd.R_drewN | apply Kd.R_drew)); exact HO_6.out)); (case aS => exact (below_size (by repeat (first | (with_reducible first | exact HB.out | apply below_alloc | apply pw_below_drewN | apply below_drew1) | exact HB.out)))); (case aL => have := LMc16.out; omega); intro v321 w17 ho hb hg hat; rw [← Ny320.out] at ho; have n0_ := Aside0.mk (Kd.S_after (ok := (fun _ => True)) (by (with_reducible repeat (first | apply Kd.S_alloc | apply Kd.S_drewN | apply Kd.S_drew)); exact Kd.S_mono HO_5.out (fun _ hk => ⟨trivial, hk⟩)) hg hat); have n1_ := Aside0.mk (hb); have n2_ := Aside0.mk (ho); clear HO_5; clear HB; clear HO_6; have HO_5 := n0_; have HB := n1_; have HO322 := n2_; clear n0_ n1_ n2_; clear ho hb hg hat)); (repeat (go_quiet (first | ((with_reducible refine gate_builtin (b := .append) (xs := #[.tmp 67, .tmp 68]) rfl ?_); at_builtin; refine Kd.R_append (Kd.int .i64) (w0 := w) w.heap.size rfl (.tmp 67) (.tmp 68) 80 3 (.int .i64 0) 8 rfl Try.underlying80 info3 rfl (by decide) (by omega) u6 x6_1 (-1) [.int .i64 (-1)] (fun _ => True) (fun _ => False) rfl rfl ?aP (fun _ hk => hk.elim) ?aF ?aO ?aB ?aS ?aL ?_; (case aP => exact rfl); (case aB => exact (by repeat (first | (with_reducible first | exact HB.out | apply below_alloc | apply pw_below_drewN | apply below_drew1) | exact HB.out))); (case aF => exact (fun _ _ => trivial)); (case aO => exact (by (with_reducible repeat (first | apply Kd.R_alloc | apply Kd.R_drewN | apply Kd.R_drew)); exact HO_6.out)); (case aS => exact (below_size (by repeat (first | (with_reducible first | exact HB.out | apply below_alloc | apply pw_below_drewN | apply below_drew1) | exact HB.out)))); (case aL => have := LMc16.out; omega); intro v321 w17 ho hb hg hat; rw [← Ny320.out] at ho; have n0_ := Aside0.mk (Kd.S_after (ok := (fun _ => True)) (by (with_reducible repeat (first | apply Kd.S_alloc | apply Kd.S_drewN | apply Kd.S_drew)); exact Kd.S_mono HO_5.out (fun _ hk => ⟨trivial, hk⟩)) hg hat); have n1_ := Aside0.mk (hb); have n2_ := Aside0.mk (ho); clear HO_5; clear HB; clear HO_6; have HO_5 := n0_; have HB := n1_; have HO322 := n2_; clear n0_ n1_ n2_; clear ho hb hg hat)); try go_wp2_with (first | ((with_reducible refine gate_builtin (b := .append) (xs := #[.tmp 67, .tmp 68]) rfl ?_); at_builtin; refine Kd.R_append (Kd.int .i64) (w0 := w) w.heap.size rfl (.tmp 67) (.tmp 68) 80 3 (.int .i64 0) 8 rfl Try.underlying80 info3 rfl (by decide) (by omega) u6 x6_1 (-1) [.int .i64 (-1)] (fun _ => True) (fun _ => False) rfl rfl ?aP (fun _ hk => hk.elim) ?aF ?aO ?aB ?aS ?aL ?_; (case aP => exact rfl); (case aB => exact (by repeat (first | (with_reducible first | exact HB.out | apply below_alloc | apply pw_below_drewN | apply below_drew1) | exact HB.out))); (case aF => exact (fun _ _ => trivial)); (case aO => exact (by (with_reducible repeat (first | apply Kd.R_alloc | apply Kd.R_drewN | apply Kd.R_drew)); exact HO_6.out)); (case aS => exact (below_size (by repeat (first | (with_reducible first | exact HB.out | apply below_alloc | apply pw_below_drewN | apply below_drew1) | exact HB.out)))); (case aL => have := LMc16.out; omega); intro v321 w17 ho hb hg hat; rw [← Ny320.out] at ho; have n0_ := Aside0.mk (Kd.S_after (ok := (fun _ => True)) (by (with_reducible repeat (first | apply Kd.S_alloc | apply Kd.S_drewN | apply Kd.S_drew)); exact Kd.S_mono HO_5.out (fun _ hk => ⟨trivial, hk⟩)) hg hat); have n1_ := Aside0.mk (hb); have n2_ := Aside0.mk (ho); clear HO_5; clear HB; clear HO_6; have HO_5 := n0_; have HB := n1_; have HO322 := n2_; clear n0_ n1_ n2_; clear ho hb hg hat))))
         go_roundg kj7
         case measure => have := HK1.out; have := HJ7.out; omega
         case rel => exact ⟨(y320), (x7_1), (wrap64 (x8_1 + 1)), (by first | rfl | (simp; done) | (simp [*]; done)), (by first | rfl | (simp; done) | (simp [*]; done)), H', ⟨by have := HK1.out; have := HJ7.out; omega⟩, ⟨by (with_reducible repeat (first | apply Kd.S_alloc | apply Kd.S_drewN | apply Kd.S_drew)); exact Kd.S_mono HO_5.out (fun _ hk => hk.2)⟩, ⟨by (with_reducible repeat (first | apply Kd.R_alloc | apply Kd.R_drewN | apply Kd.R_drew)); exact HO322.out⟩, ⟨by repeat (first | (with_reducible first | exact HB.out | apply below_alloc | apply pw_below_drewN | apply below_drew1) | exact HB.out)⟩⟩
        ·rw [if_neg c16] at H; exact absurd H (by simp)
       ·rw [if_neg c15] at H; have c15b0 : decide ((l1.length : Int) ≤ x7_1) = false := decide_eq_false c15; clear c15; obtain ⟨ji18, hji18⟩ : ∃ j_ : Int, (wrap64 (x8_1 + 1)) = j_ := ⟨_, rfl⟩; (replace H : (if 0 ≤ (ji18) then (if (ji18) < (t309.length : Int) then (if 0 ≤ x7_1 then (if x7_1 < ((rd_L7 t309 (ji18)).length : Int) then (if 0 ≤ x8_1 then (if x8_1 < (t309.length : Int) then (if 0 ≤ (wrap64 (x7_1 + 1)) then (if (wrap64 (x7_1 + 1)) < ((rd_L7 t309 x8_1).length : Int) then (if (rd (rd_L7 t309 (ji18)) x7_1) ≥ (rd (rd_L7 t309 x8_1) (wrap64 (x7_1 + 1))) then (if x6_1.length < 17592186044416 then (spec_l1Match.l0 kj7 l0 l1 t309 (x6_1 ++ [(-1)]) x7_1 ji18) else (none)) else (spec_l1Match.l0 kj7 l0 l1 t309 x6_1 (wrap64 (x7_1 + 1)) x8_1)) else (none)) else (none)) else (none)) else (none)) else (none)) else (none)) else (none)) else (none)) = some r := by first | (rw [hji18] at H; exact H) | (simp only [hji18] at H ⊢; exact H)); have hji18w : (IntKind.i64.wrap (x8_1 + 1)) = ji18 := (i64_w _).trans hji18; by_cases c19 : 0 ≤ (ji18)
        ·rw [if_pos c19] at H; have c19b0 : decide (0 ≤ (ji18)) = true := decide_eq_true c19; clear c19; by_cases c20 : (ji18) < (t309.length : Int)
         ·rw [if_pos c20] at H; have c20b0 : decide ((ji18) < (t309.length : Int)) = true := decide_eq_true c20; clear c20; by_cases c21 : 0 ≤ x7_1
          ·rw [if_pos c21] at H; have c21b0 : decide (0 ≤ x7_1) = true := decide_eq_true c21; clear c21; by_cases c22 : x7_1 < ((rd_L7 t309 (ji18)).length : Int)
           ·rw [if_pos c22] at H; have c22b0 : decide (x7_1 < ((rd_L7 t309 (ji18)).length : Int)) = true := decide_eq_true c22; clear c22; by_cases c23 : 0 ≤ x8_1
            ·rw [if_pos c23] at H; have c23b0 : decide (0 ≤ x8_1) = true := decide_eq_true c23; clear c23; by_cases c24 : x8_1 < (t309.length : Int)
             ·rw [if_pos c24] at H; have c24b0 : decide (x8_1 < (t309.length : Int)) = true := decide_eq_true c24; clear c24; obtain ⟨ji25, hji25⟩ : ∃ j_ : Int, (wrap64 (x7_1 + 1)) = j_ := ⟨_, rfl⟩; (replace H : (if 0 ≤ (ji25) then (if (ji25) < ((rd_L7 t309 x8_1).length : Int) then (if (rd (rd_L7 t309 (ji18)) x7_1) ≥ (rd (rd_L7 t309 x8_1) (ji25)) then (if x6_1.length < 17592186044416 then (spec_l1Match.l0 kj7 l0 l1 t309 (x6_1 ++ [(-1)]) x7_1 ji18) else (none)) else (spec_l1Match.l0 kj7 l0 l1 t309 x6_1 ji25 x8_1)) else (none)) else (none)) = some r := by first | (rw [hji25] at H; exact H) | (simp only [hji25] at H ⊢; exact H)); have hji25w : (IntKind.i64.wrap (x7_1 + 1)) = ji25 := (i64_w _).trans hji25; by_cases c26 : 0 ≤ (ji25)
              ·rw [if_pos c26] at H; have c26b0 : decide (0 ≤ (ji25)) = true := decide_eq_true c26; clear c26; by_cases c27 : (ji25) < ((rd_L7 t309 x8_1).length : Int)
               ·rw [if_pos c27] at H; have c27b0 : decide ((ji25) < ((rd_L7 t309 x8_1).length : Int)) = true := decide_eq_true c27; clear c27; by_cases c28 : (rd (rd_L7 t309 (ji18)) x7_1) ≥ (rd (rd_L7 t309 x8_1) (ji25))
                ·rw [if_pos c28] at H; have c28b0 : decide ((rd (rd_L7 t309 x8_1) (ji25)) ≤ (rd (rd_L7 t309 (ji18)) x7_1)) = true := decide_eq_true c28; clear c28; by_cases c29 : x6_1.length < 17592186044416
                 ·rw [if_pos c29] at H; have LMc29 := Aside0.mk c29; clear c29; obtain ⟨y327, hy327⟩ : ∃ y_ : List Int, y_ = (x6_1 ++ [(-1)]) := ⟨_, rfl⟩; (replace H : (spec_l1Match.l0 kj7 l0 l1 t309 y327 x7_1 ji18) = some r := by first | (rw [hy327]; with_reducible exact H) | (have H2_ := (Option.bind_some _ _).symm.trans H; rw [hy327]; with_reducible exact H2_) | (have H2_ := (Option.bind_some _ _).symm.trans H; with_reducible exact H2_) | with_reducible exact H | (rw [hy327]; exact H) | exact H); have Ny327 := Aside0.mk hy327; clear hy327; have H' := Aside0.mk H; clear H; obtain ⟨Ao30, co30, eo30⟩ := Kd.S_slice HO_5.out; subst eo30; have p323 : 0 ≤ ((ji18) : Int) := of_decide_eq_true (by assumption); have q323 : (ji18) < (t309.length : Int) := of_decide_eq_true (by assumption); obtain ⟨ad323, A323_0, c323_0, e323, hx323_0, hl323_0, hi323_0⟩ := at_L7 (Kd.S_reads' HO_5.out).2.2 (ji18) p323 q323; cases e323; obtain ⟨ce323, hce323, hMe323, hcc323⟩ := Kd.S_get HO_5.out [] (ji18) p323 (by first | exact q323 | exact of_decide_eq_true (by assumption) | (have e_ := (Kd.S_reads' HO_5.out).1; omega)); obtain ⟨ve323_0, rfl, ge323_0⟩ := hMe323; have hv323_0 := hcc323 0 _ rfl; rw [Nat.add_zero, show ((Kd.slice 3 (Kd.int .i64))).sz = 1 from rfl, Nat.mul_one] at hv323_0; replace hv323_0 := Option.some.inj (hv323_0.symm.trans hx323_0); rw [hv323_0] at ge323_0; have HL323_0 := Aside0.mk (show Kd.R (Kd.int .i64) 3 _ _ _ _ (rd_L7 t309 (ji18)) from ge323_0); clear hv323_0 ge323_0; clear hcc323 hce323; have HR323_0 := Aside0.mk hi323_0; have HC323_0 := Aside0.mk hl323_0; clear hi323_0 hl323_0; replace p323 := eq_true p323; replace q323 := eq_true q323; have p324 : 0 ≤ (x7_1 : Int) := of_decide_eq_true (by assumption); have q324 : x7_1 < ((rd_L7 t309 (ji18)).length : Int) := of_decide_eq_true (by assumption); obtain ⟨ad324, e324, hx324_0⟩ := Kd.at_int (by repeat (first | (with_reducible exact HR323_0.out) | (with_reducible refine Kd.C_alloc ?_ _) | (with_reducible refine Kd.C_drewN ?_ _) | (with_reducible refine Kd.C_drew ?_) | exact HR323_0.out)) x7_1 p324 q324; cases e324; replace p324 := eq_true p324; replace q324 := eq_true q324; have p325 : 0 ≤ (x8_1 : Int) := of_decide_eq_true (by assumption); have q325 : x8_1 < (t309.length : Int) := of_decide_eq_true (by assumption); obtain ⟨ad325, A325_0, c325_0, e325, hx325_0, hl325_0, hi325_0⟩ := at_L7 (Kd.S_reads' HO_5.out).2.2 x8_1 p325 q325; obtain rfl : ad323 = ad325 := (by injection e325); obtain ⟨ce325, hce325, hMe325, hcc325⟩ := Kd.S_get HO_5.out [] x8_1 p325 (by first | exact q325 | exact of_decide_eq_true (by assumption) | (have e_ := (Kd.S_reads' HO_5.out).1; omega)); obtain ⟨ve325_0, rfl, ge325_0⟩ := hMe325; have hv325_0 := hcc325 0 _ rfl; rw [Nat.add_zero, show ((Kd.slice 3 (Kd.int .i64))).sz = 1 from rfl, Nat.mul_one] at hv325_0; replace hv325_0 := Option.some.inj (hv325_0.symm.trans hx325_0); rw [hv325_0] at ge325_0; have HL325_0 := Aside0.mk (show Kd.R (Kd.int .i64) 3 _ _ _ _ (rd_L7 t309 x8_1) from ge325_0); clear hv325_0 ge325_0
                  clear hcc325 hce325; have HR325_0 := Aside0.mk hi325_0; have HC325_0 := Aside0.mk hl325_0; clear hi325_0 hl325_0; replace p325 := eq_true p325; replace q325 := eq_true q325; have p326 : 0 ≤ ((ji25) : Int) := of_decide_eq_true (by assumption); have q326 : (ji25) < ((rd_L7 t309 x8_1).length : Int) := of_decide_eq_true (by assumption); obtain ⟨ad326, e326, hx326_0⟩ := Kd.at_int (by repeat (first | (with_reducible exact HR325_0.out) | (with_reducible refine Kd.C_alloc ?_ _) | (with_reducible refine Kd.C_drewN ?_ _) | (with_reducible refine Kd.C_drew ?_) | exact HR325_0.out)) (ji25) p326 q326; cases e326; replace p326 := eq_true p326; replace q326 := eq_true q326; go_wp2_with (first | ((with_reducible refine gate_builtin (b := .append) (xs := #[.tmp 67, .tmp 68]) rfl ?_); at_builtin; refine Kd.R_append (Kd.int .i64) (w0 := w) w.heap.size rfl (.tmp 67) (.tmp 68) 80 3 (.int .i64 0) 8 rfl Try.underlying80 info3 rfl (by decide) (by omega) u6 x6_1 (-1) [.int .i64 (-1)] (fun _ => True) (fun _ => False) rfl rfl ?aP (fun _ hk => hk.elim) ?aF ?aO ?aB ?aS ?aL ?_; (case aP => exact rfl); (case aB => exact (by repeat (first | (with_reducible first | exact HB.out | apply below_alloc | apply pw_below_drewN | apply below_drew1) | exact HB.out))); (case aF => exact (fun _ _ => trivial)); (case aO => exact (by (with_reducible repeat (first | apply Kd.R_alloc | apply Kd.R_drewN | apply Kd.R_drew)); exact HO_6.out)); (case aS => exact (below_size (by repeat (first | (with_reducible first | exact HB.out | apply below_alloc | apply pw_below_drewN | apply below_drew1) | exact HB.out)))); (case aL => have := LMc29.out; omega); intro v328 w31 ho hb hg hat; rw [← Ny327.out] at ho; have n0_ := Aside0.mk (Kd.S_after (ok := (fun _ => True)) (by (with_reducible repeat (first | apply Kd.S_alloc | apply Kd.S_drewN | apply Kd.S_drew)); exact Kd.S_mono HO_5.out (fun _ hk => ⟨trivial, hk⟩)) hg hat); have n1_ := Aside0.mk (Kd.R_after (ok := (fun k_ => some k_ ≠ (.slice (some ad323) t309.length co30 : Value).ownBlock)) (by (with_reducible repeat (first | apply Kd.R_alloc | apply Kd.R_drewN | apply Kd.R_drew)); exact Kd.R_mono HL323_0.out (fun _ hk => ⟨hk.2, hk.1⟩)) hg hat); have n2_ := Aside0.mk (Kd.R_after (ok := (fun k_ => some k_ ≠ (.slice (some ad323) t309.length co30 : Value).ownBlock)) (by (with_reducible repeat (first | apply Kd.R_alloc | apply Kd.R_drewN | apply Kd.R_drew)); exact Kd.R_mono HL325_0.out (fun _ hk => ⟨hk.2, hk.1⟩)) hg hat); have n3_ := Aside0.mk (hb); have n4_ := Aside0.mk (ho); clear HO_5; clear HL323_0; clear HL325_0; clear HB; clear HO_6; have HO_5 := n0_; have HL323_0 := n1_; have HL325_0 := n2_; have HB := n3_; have HO329 := n4_; clear n0_ n1_ n2_ n3_ n4_; clear ho hb hg hat)); (repeat (go_quiet (first | ((with_reducible refine gate_builtin (b := .append) (xs := #[.tmp 67, .tmp 68]) rfl ?_); at_builtin; refine Kd.R_append (Kd.int .i64) (w0 := w) w.heap.size rfl (.tmp 67) (.tmp 68) 80 3 (.int .i64 0) 8 rfl Try.underlying80 info3 rfl (by decide) (by omega) u6 x6_1 (-1) [.int .i64 (-1)] (fun _ => True) (fun _ => False) rfl rfl ?aP (fun _ hk => hk.elim) ?aF ?aO ?aB ?aS ?aL ?_; (case aP => exact rfl); (case aB => exact (by repeat (first | (with_reducible first | exact HB.out | apply below_alloc | apply pw_below_drewN | apply below_drew1) | exact HB.out))); (case aF => exact (fun _ _ => trivial)); (case aO => exact (by (with_reducible repeat (first | apply Kd.R_alloc | apply Kd.R_drewN | apply Kd.R_drew)); exact HO_6.out)); (case aS => exact (below_size (by repeat (first | (with_reducible first | exact HB.out | apply below_alloc | apply pw_below_drewN | apply below_drew1) | exact HB.out)))); (case aL => have := LMc29.out; omega); intro v328 w31 ho hb hg hat; rw [← Ny327.out] at ho; have n0_ := Aside0.mk (Kd.S_after (ok := (fun _ => True)) (by (with_reducible repeat (first | apply Kd.S_alloc | apply Kd.S_drewN | apply Kd.S_drew)); exact Kd.S_mono HO_5.out (fun _ hk => ⟨trivial, hk⟩)) hg hat); have n1_ := Aside0.mk (Kd.R_after (ok := (fun k_ => some k_ ≠ (.slice (some ad323) t309.length co30 : Value).ownBlock)) (by (with_reducible repeat (first | apply Kd.R_alloc | apply Kd.R_drewN | apply Kd.R_drew)); exact Kd.R_mono HL323_0.out (fun _ hk => ⟨hk.2, hk.1⟩)) hg hat); have n2_ := Aside0.mk (Kd.R_after (ok := (fun k_ => some k_ ≠ (.slice (some ad323) t309.length co30 : Value).ownBlock)) (by (with_reducible repeat (first | apply Kd.R_alloc | apply Kd.R_drewN | apply Kd.R_drew)); exact Kd.R_mono HL325_0.out (fun _ hk => ⟨hk.2, hk.1⟩)) hg hat); have n3_ := Aside0.mk (hb); have n4_ := Aside0.mk (ho); clear HO_5; clear HL323_0; clear HL325_0; clear HB; clear HO_6; have HO_5 := n0_; have HL323_0 := n1_; have HL325_0 := n2_; have HB := n3_; have HO329 := n4_; clear n0_ n1_ n2_ n3_ n4_; clear ho hb hg hat)); try go_wp2_with (first | ((with_reducible refine gate_builtin (b := .append) (xs := #[.tmp 67, .tmp 68]) rfl ?_); at_builtin; refine Kd.R_append (Kd.int .i64) (w0 := w) w.heap.size rfl (.tmp 67) (.tmp 68) 80 3 (.int .i64 0) 8 rfl Try.underlying80 info3 rfl (by decide) (by omega) u6 x6_1 (-1) [.int .i64 (-1)] (fun _ => True) (fun _ => False) rfl rfl ?aP (fun _ hk => hk.elim) ?aF ?aO ?aB ?aS ?aL ?_; (case aP => exact rfl); (case aB => exact (by repeat (first | (with_reducible first | exact HB.out | apply below_alloc | apply pw_below_drewN | apply below_drew1) | exact HB.out))); (case aF => exact (fun _ _ => trivial)); (case aO => exact (by (with_reducible repeat (first | apply Kd.R_alloc | apply Kd.R_drewN | apply Kd.R_drew)); exact HO_6.out)); (case aS => exact (below_size (by repeat (first | (with_reducible first | exact HB.out | apply below_alloc | apply pw_below_drewN | apply below_drew1) | exact HB.out)))); (case aL => have := LMc29.out; omega); intro v328 w31 ho hb hg hat; rw [← Ny327.out] at ho; have n0_ := Aside0.mk (Kd.S_after (ok := (fun _ => True)) (by (with_reducible repeat (first | apply Kd.S_alloc | apply Kd.S_drewN | apply Kd.S_drew)); exact Kd.S_mono HO_5.out (fun _ hk => ⟨trivial, hk⟩)) hg hat); have n1_ := Aside0.mk (Kd.R_after (ok := (fun k_ => some k_ ≠ (.slice (some ad323) t309.length co30 : Value).ownBlock)) (by (with_reducible repeat (first | apply Kd.R_alloc | apply Kd.R_drewN | apply Kd.R_drew)); exact Kd.R_mono HL323_0.out (fun _ hk => ⟨hk.2, hk.1⟩)) hg hat); have n2_ := Aside0.mk (Kd.R_after (ok := (fun k_ => some k_ ≠ (.slice (some ad323) t309.length co30 : Value).ownBlock)) (by (with_reducible repeat (first | apply Kd.R_alloc | apply Kd.R_drewN | apply Kd.R_drew)); exact Kd.R_mono HL325_0.out (fun _ hk => ⟨hk.2, hk.1⟩)) hg hat); have n3_ := Aside0.mk (hb); have n4_ := Aside0.mk (ho); clear HO_5; clear HL323_0; clear HL325_0; clear HB; clear HO_6; have HO_5 := n0_; have HL323_0 := n1_; have HL325_0 := n2_; have HB := n3_; have HO329 := n4_; clear n0_ n1_ n2_ n3_ n4_; clear ho hb hg hat))))
                  go_roundg kj7
                  case measure => have := HK1.out; have := HJ7.out; omega
                  case rel => exact ⟨(y327), (x7_1), (ji18), (by first | rfl | (simp; done) | (simp [*]; done)), (by first | rfl | (simp; done) | (simp only [← hji18] <;> (first | rfl | simp)) | (simp [*]; done)), H', ⟨by have := HK1.out; have := HJ7.out; omega⟩, ⟨by (with_reducible repeat (first | apply Kd.S_alloc | apply Kd.S_drewN | apply Kd.S_drew)); exact Kd.S_mono HO_5.out (fun _ hk => hk.2)⟩, ⟨by (with_reducible repeat (first | apply Kd.R_alloc | apply Kd.R_drewN | apply Kd.R_drew)); exact HO329.out⟩, ⟨by repeat (first | (with_reducible first | exact HB.out | apply below_alloc | apply pw_below_drewN | apply below_drew1) | exact HB.out)⟩⟩
                 ·rw [if_neg c29] at H; exact absurd H (by simp)
                ·rw [if_neg c28] at H; have c28b0 : decide ((rd (rd_L7 t309 x8_1) (ji25)) ≤ (rd (rd_L7 t309 (ji18)) x7_1)) = false := decide_eq_false c28; clear c28; have H' := Aside0.mk H; clear H; obtain ⟨Ao32, co32, eo32⟩ := Kd.S_slice HO_5.out; subst eo32; have p323 : 0 ≤ ((ji18) : Int) := of_decide_eq_true (by assumption); have q323 : (ji18) < (t309.length : Int) := of_decide_eq_true (by assumption); obtain ⟨ad323, A323_0, c323_0, e323, hx323_0, hl323_0, hi323_0⟩ := at_L7 (Kd.S_reads' HO_5.out).2.2 (ji18) p323 q323; cases e323; obtain ⟨ce323, hce323, hMe323, hcc323⟩ := Kd.S_get HO_5.out [] (ji18) p323 (by first | exact q323 | exact of_decide_eq_true (by assumption) | (have e_ := (Kd.S_reads' HO_5.out).1; omega)); obtain ⟨ve323_0, rfl, ge323_0⟩ := hMe323; have hv323_0 := hcc323 0 _ rfl; rw [Nat.add_zero, show ((Kd.slice 3 (Kd.int .i64))).sz = 1 from rfl, Nat.mul_one] at hv323_0; replace hv323_0 := Option.some.inj (hv323_0.symm.trans hx323_0); rw [hv323_0] at ge323_0; have HL323_0 := Aside0.mk (show Kd.R (Kd.int .i64) 3 _ _ _ _ (rd_L7 t309 (ji18)) from ge323_0); clear hv323_0 ge323_0; clear hcc323 hce323; have HR323_0 := Aside0.mk hi323_0; have HC323_0 := Aside0.mk hl323_0; clear hi323_0 hl323_0; replace p323 := eq_true p323; replace q323 := eq_true q323; have p324 : 0 ≤ (x7_1 : Int) := of_decide_eq_true (by assumption); have q324 : x7_1 < ((rd_L7 t309 (ji18)).length : Int) := of_decide_eq_true (by assumption); obtain ⟨ad324, e324, hx324_0⟩ := Kd.at_int (by repeat (first | (with_reducible exact HR323_0.out) | (with_reducible refine Kd.C_alloc ?_ _) | (with_reducible refine Kd.C_drewN ?_ _) | (with_reducible refine Kd.C_drew ?_) | exact HR323_0.out)) x7_1 p324 q324; cases e324; replace p324 := eq_true p324; replace q324 := eq_true q324; have p325 : 0 ≤ (x8_1 : Int) := of_decide_eq_true (by assumption); have q325 : x8_1 < (t309.length : Int) := of_decide_eq_true (by assumption); obtain ⟨ad325, A325_0, c325_0, e325, hx325_0, hl325_0, hi325_0⟩ := at_L7 (Kd.S_reads' HO_5.out).2.2 x8_1 p325 q325; obtain rfl : ad323 = ad325 := (by injection e325); obtain ⟨ce325, hce325, hMe325, hcc325⟩ := Kd.S_get HO_5.out [] x8_1 p325 (by first | exact q325 | exact of_decide_eq_true (by assumption) | (have e_ := (Kd.S_reads' HO_5.out).1; omega)); obtain ⟨ve325_0, rfl, ge325_0⟩ := hMe325; have hv325_0 := hcc325 0 _ rfl; rw [Nat.add_zero, show ((Kd.slice 3 (Kd.int .i64))).sz = 1 from rfl, Nat.mul_one] at hv325_0; replace hv325_0 := Option.some.inj (hv325_0.symm.trans hx325_0); rw [hv325_0] at ge325_0; have HL325_0 := Aside0.mk (show Kd.R (Kd.int .i64) 3 _ _ _ _ (rd_L7 t309 x8_1) from ge325_0); clear hv325_0 ge325_0; clear hcc325 hce325; have HR325_0 := Aside0.mk hi325_0; have HC325_0 := Aside0.mk hl325_0; clear hi325_0 hl325_0; replace p325 := eq_true p325; replace q325 := eq_true q325; have p326 : 0 ≤ ((ji25) : Int) := of_decide_eq_true (by assumption); have q326 : (ji25) < ((rd_L7 t309 x8_1).length : Int) := of_decide_eq_true (by assumption); obtain ⟨ad326, e326, hx326_0⟩ := Kd.at_int (by repeat (first | (with_reducible exact HR325_0.out) | (with_reducible refine Kd.C_alloc ?_ _) | (with_reducible refine Kd.C_drewN ?_ _) | (with_reducible refine Kd.C_drew ?_) | exact HR325_0.out)) (ji25) p326 q326
                 cases e326; replace p326 := eq_true p326; replace q326 := eq_true q326; go_wp2; (repeat (go_quiet (fail); try go_wp2)); go_roundg kj7
                 case measure => have := HK1.out; have := HJ7.out; omega
                 case rel => exact ⟨(x6_1), (ji25), (x8_1), (by first | rfl | (simp; done) | (simp only [← hji25] <;> (first | rfl | simp)) | (simp [*]; done)), (by first | rfl | (simp; done) | (simp [*]; done)), H', ⟨by have := HK1.out; have := HJ7.out; omega⟩, ⟨by (with_reducible repeat (first | apply Kd.S_alloc | apply Kd.S_drewN | apply Kd.S_drew)); exact HO_5.out⟩, ⟨by (with_reducible repeat (first | apply Kd.R_alloc | apply Kd.R_drewN | apply Kd.R_drew)); exact HO_6.out⟩, ⟨by repeat (first | (with_reducible first | exact HB.out | apply below_alloc | apply pw_below_drewN | apply below_drew1) | exact HB.out)⟩⟩
               ·rw [if_neg c27] at H; exact absurd H (by simp)
              ·rw [if_neg c26] at H; exact absurd H (by simp)
             ·rw [if_neg c24] at H; exact absurd H (by simp)
            ·rw [if_neg c23] at H; exact absurd H (by simp)
           ·rw [if_neg c22] at H; exact absurd H (by simp)
          ·rw [if_neg c21] at H; exact absurd H (by simp)
         ·rw [if_neg c20] at H; exact absurd H (by simp)
        ·rw [if_neg c19] at H; exact absurd H (by simp)
   ·rw [if_neg c7] at H; have c7b0 : decide (x8_1 < (l0.length : Int)) = false := decide_eq_false c7; clear c7; obtain rfl := Option.some.inj H; go_wp2; (repeat (go_quiet (fail); try go_wp2)); go_ret; exact ⟨_, by first | rfl | (simp <;> rfl) | (simp [*] <;> rfl), by (with_reducible repeat (first | apply Kd.R_alloc | apply Kd.R_drewN | apply Kd.R_drew)); exact HO_6.out, by repeat (first | (with_reducible first | exact HB.out | apply below_alloc | apply pw_below_drewN | apply below_drew1) | exact HB.out)⟩
end Go.Proofs.Ytfpdkeolecmepaa.Q
end
section
namespace Go.Proofs.Ytfpdkeolecmepaa.Q
open Go.RowKit Go.Proofs.YtfpdkeolecmepaaW.PrintWords Go.Proofs.YtfpdkeolecmepaaW.PrintLast Go.Proofs.YtfpdkeolecmepaaW.PrintMore
attribute [local go_sem] max2_int min2_int max_two min_two max_three min_three max_four min_four   -- for this text's walks alone
set_option linter.unusedVariables false
set_option linter.unusedSimpArgs false
set_option maxHeartbeats 4000000 in
set_option maxRecDepth 100000 in
theorem l3Put_calls (w0 w : World) (v : Value) (ps : List Pt) (N Z : Nat) (P : Nat → Prop) (p : Pt) (v1 v2 v3 v4 : Value) (hS : Kd.S kPt 31 w w0.heap.size (fun k => P k ∧ k < Z) v ps) (h1 : Kd.R Kd.string 9 w w0.heap.size (fun k => Z ≤ k) v1 p.f1) (h2 : Kd.R Kd.string 9 w w0.heap.size (fun k => Z ≤ k ∧ some k ≠ v1.ownBlock) v2 p.f2) (h3 : Kd.R Kd.string 9 w w0.heap.size (fun k => Z ≤ k ∧ some k ≠ v1.ownBlock) v3 p.f3) (h4 : Kd.R Kd.string 9 w w0.heap.size (fun k => Z ≤ k ∧ some k ≠ v1.ownBlock) v4 p.f4) (hMZ : ∀ k, Z ≤ k → P k) (hZ : Z ≤ w.heap.size) (hB : Below w0.heap.size w0 w) (hP : smP N ps) (hN : N ≤ 100000000) (hl : p.f1.length ≤ 1000) :
 Calls Try.prog 84 #[v, .agg #[.bool p.f0, v1, v2, v3, v4]] w fun e w' => ∃ v', e = .returned v' ∧ Kd.S kPt 31 w' w0.heap.size (fun k => P k) v' (putP ps p) ∧ Below w0.heap.size w0 w' ∧ Kept w w' (fun k => P k) := by
 obtain ⟨Av, n, cv, rfl, hn⟩ : ∃ Av n cv, v = .slice Av n cv ∧ n = ps.length := by
  obtain ⟨Av, cv, rfl⟩ := Kd.S_slice hS; exact ⟨Av, _, cv, rfl, rfl⟩
 obtain ⟨Ap, m, cp, rfl, hm⟩ : ∃ A m c, v1 = .slice A m c ∧ m = p.f1.length := by
  obtain ⟨A, c, rfl⟩ := Kd.R_slice h1; exact ⟨A, _, c, rfl, rfl⟩
 (have hnl : n ≤ 100000000 := by have := hP.1; omega); (have hml : m ≤ 1000 := by omega); have HS := Aside0.mk hS; have H1 := Aside0.mk (And.intro h1 (And.intro h2 (And.intro h3 h4))); have HB := Aside0.mk hB; have HP := Aside0.mk hP; have HX := Aside0.mk (And.intro hMZ hZ); have HN := Aside0.mk hN; have HM := Aside0.mk hm; clear hS h1 h2 h3 h4 hB hP hl hMZ hZ hN hm; obtain ⟨pf, hpf⟩ : ∃ pf, pf = p.f0 := ⟨_, rfl⟩; rw [← hpf]; have HPF := Aside0.mk hpf; go_enter Try.func84, Try.ntmps84
 cases pf with
 | false =>
  by_cases e : m = 0
  ·subst e; have HE := Aside0.mk (putP_nil (ps := ps) hpf.symm HM.out.symm); clear hpf hn; go_wp2; go_ret; exact ⟨_, rfl, by rw [HE.out]; exact Kd.S_mono (Kd.S_alloc HS.out _) (fun k hk => hk.1), below_alloc HB.out _, (Kept.refl _ _).alloc _⟩
  ·have q1 : ((m : Int) == 0) = false := beq_eq_false_iff_ne.mpr (by omega)
   rcases List.eq_nil_or_concat ps with rfl | ⟨q, x, hqx⟩
   ·obtain rfl : n = 0 := hn; have HE := Aside0.mk (putP_new (ps := []) (p := p) (by rw [← HM.out]; exact e) (.inl rfl)); clear hpf hnl; go_wp2_with (first | ((with_reducible refine gate_builtin (b := .append) (xs := #[.tmp 49, .tmp 51]) rfl ?_); at_builtin; refine Kd.S_append kPt (w0 := w0) w0.heap.size rfl (.tmp 49) (.tmp 51) 26 31 (.agg #[.bool false, .slice none 0 0, .slice none 0 0, .slice none 0 0, .slice none 0 0]) 104 rfl Try.underlying26 infoPt rfl (by decide) (by omega) (.slice Av 0 cv) ([] : List Pt) p [.bool false, .slice Ap m cp, v2, v3, v4] (fun k => P k) (fun k => Z ≤ k) rfl (congrArg (fun b => Value.slice (some ⟨b, 0, none⟩) 1 1) (show w.heap.size + 1 = (w.alloc (.cells #[.bool false, .slice Ap m cp, v2, v3, v4] 31)).heap.size by simp)) ⟨_, _, _, _, by rw [← HPF.out], Kd.R_alloc H1.out.1 _, Kd.R_alloc H1.out.2.1 _, Kd.R_alloc H1.out.2.2.1 _, Kd.R_alloc H1.out.2.2.2 _⟩ (fun k hk => ⟨HX.out.1 k hk, fun h2 => Nat.lt_irrefl _ (Nat.lt_of_lt_of_le ((Kd.S_R HS.out).1 k h2.symm).2 hk)⟩) (fun k hk => HX.out.1 k (Nat.le_trans HX.out.2 (Nat.le_trans (below_size (below_alloc (Below.refl w.heap.size w) _)) hk))) (Kd.S_mono (Kd.S_alloc HS.out _) (fun k hk => ⟨hk.1, Nat.not_le.mpr hk.2⟩)) (below_alloc HB.out _) (below_size (below_alloc HB.out _)) ?aL ?_; (case aL => have h1 := HP.out.1; have h2 := HN.out; omega); intro v5 w5 ho hb hg hat)); go_ret; exact ⟨_, rfl, by rw [HE.out]; exact ho, hb, Kept.of_grown hg ((Kept.refl _ _).alloc _) (fun k hk => .inl ((Kd.S_R HS.out).1 k hk).1)⟩
   ·rw [List.concat_eq_append] at hqx; subst hqx; (obtain rfl : n = q.length + 1 := by simpa using hn); clear hn; obtain ⟨gv, cap, ev, hgv0, hgvl, cells, hgvc⟩ := Kd.S_form HS.out (by simp); have HGV := Aside0.mk hgvc; clear hgvc; obtain ⟨rfl, hz1, rfl⟩ := Value.slice.inj ev; clear ev hz1; obtain ⟨oki, A1, c1, u2, u3, u4, hR1, hR2, hR3, hR4, hz2, hx0, hx1, hoki, hokl, hH⟩ := last_lend HS.out; clear hz2; (have hw1 : wrap64 (q.length : Int) = (q.length : Int) := by unfold wrap64; omega)
    cases hxf : x.f0 with
    | true =>
     have HE := Aside0.mk (putP_new (ps := q ++ [x]) (p := p) (by rw [← HM.out]; exact e) (.inr ⟨q, x, rfl, hxf⟩)); rw [hxf] at hx0; clear hR1 hR2 hR3 hR4 hH hoki hx1 hokl hpf; go_wp2_with (first | ((with_reducible refine gate_builtin (b := .append) (xs := #[.tmp 49, .tmp 51]) rfl ?_); at_builtin; refine Kd.S_append kPt (w0 := w0) w0.heap.size rfl (.tmp 49) (.tmp 51) 26 31 (.agg #[.bool false, .slice none 0 0, .slice none 0 0, .slice none 0 0, .slice none 0 0]) 104 rfl Try.underlying26 infoPt rfl (by decide) (by omega) (.slice (some ⟨gv, 0, none⟩) (q.length + 1) cv) (q ++ [x]) p [.bool false, .slice Ap m cp, v2, v3, v4] (fun k => P k) (fun k => Z ≤ k) rfl (congrArg (fun b => Value.slice (some ⟨b, 0, none⟩) 1 1) (show w.heap.size + 1 = (w.alloc (.cells #[.bool false, .slice Ap m cp, v2, v3, v4] 31)).heap.size by simp)) ⟨_, _, _, _, by rw [← HPF.out], Kd.R_alloc H1.out.1 _, Kd.R_alloc H1.out.2.1 _, Kd.R_alloc H1.out.2.2.1 _, Kd.R_alloc H1.out.2.2.2 _⟩ (fun k hk => ⟨HX.out.1 k hk, fun h2 => Nat.lt_irrefl _ (Nat.lt_of_lt_of_le ((Kd.S_R HS.out).1 k h2.symm).2 hk)⟩) (fun k hk => HX.out.1 k (Nat.le_trans HX.out.2 (Nat.le_trans (below_size (below_alloc (Below.refl w.heap.size w) _)) hk))) (Kd.S_mono (Kd.S_alloc HS.out _) (fun k hk => ⟨hk.1, Nat.not_le.mpr hk.2⟩)) (below_alloc HB.out _) (below_size (below_alloc HB.out _)) ?aL ?_; (case aL => have h1 := HP.out.1; have h2 := HN.out; omega); intro v5 w5 ho hb hg hat)); go_ret
     exact ⟨_, rfl, by rw [HE.out]; exact ho, hb, Kept.of_grown hg ((Kept.refl _ _).alloc _) (fun k hk => .inl ((Kd.S_R HS.out).1 k hk).1)⟩
    | false =>
     have HE := Aside0.mk (putP_old (q := q) (p := p) (by rw [← HM.out]; exact e) hpf.symm hxf); rw [hxf] at hx0; have HR1 := Aside0.mk hR1; have HR2 := Aside0.mk hR2; have HR3 := Aside0.mk hR3; have HR4 := Aside0.mk hR4; have HH := Aside0.mk hH; have HI := Aside0.mk (fun k hk => And.intro (hoki k hk) (hokl k hk)); clear hR1 hR2 hR3 hR4 hH hoki hokl hpf; (have hlt9 : (q.length : Int) < (q.length : Int) + 1 := by omega); go_wp2; obtain ⟨gb, hgb⟩ : ∃ gb, gb = w.heap.size := ⟨_, rfl⟩; obtain ⟨wb, hwb⟩ : ∃ wb, wb = w.alloc (.cells #[.bool false, .slice Ap m cp, v2, v3, v4] 31) := ⟨_, rfl⟩; rw [← hwb, ← hgb]; (have hcb : wb.drew.cell? ⟨gb, 1, none⟩ = some (.slice Ap m cp) := by rw [hwb, hgb]; exact (blk_cell (blk_drew (blk_new w (.cells #[.bool false, .slice Ap m cp, v2, v3, v4] 31))) 1).trans rfl); (have hx2 : wb.drew.cell? ⟨gv, q.length * 5 + 1, none⟩ = some (.slice A1 x.f1.length c1) := by rw [hwb]; exact (World.cell?_alloc_lt _ _ _ (World.block_lt_of_cell? _ _ hx1)).trans hx1); have HGV2 : Aside0 (wb.drew.heap[gv]? = some (.cells cells 31 (0, 0))) := ⟨by rw [hwb]; exact blk_drew (blk_alloc HGV.out _)⟩; have HB2 : Aside0 (Below w0.heap.size w0 wb.drew) := ⟨by rw [hwb]; exact below_drew1 (below_alloc HB.out _)⟩; have HK2 : Aside0 (Kept w wb.drew (fun k => P k)) := ⟨by rw [hwb]; exact Kept.drew ((Kept.refl _ _).alloc _)⟩; (have hM2 : ∀ k, wb.drew.heap.size ≤ k → P k := fun k hk => HX.out.1 k (Nat.le_trans HX.out.2 (Nat.le_trans (kept_size HK2.out) hk))); have HI2 : Aside0 (∀ k, oki k → ((P k ∧ k < Z) ∧ k ≠ gv) ∧ k < wb.drew.heap.size) := ⟨fun k hk => ⟨(HI.out k hk).1, Nat.lt_of_lt_of_le (HI.out k hk).2 (kept_size HK2.out)⟩⟩; have HR12 : Aside0 (Kd.R Kd.string 9 wb.drew w0.heap.size oki (.slice A1 x.f1.length c1) x.f1) := ⟨by rw [hwb]; exact Kd.R_drew (Kd.R_alloc HR1.out _)⟩; have HR22 : Aside0 (Kd.R Kd.string 9 wb.drew w0.heap.size (fun k => oki k ∧ some k ≠ (Value.slice A1 x.f1.length c1).ownBlock) u2 x.f2) := ⟨by rw [hwb]; exact Kd.R_drew (Kd.R_alloc HR2.out _)⟩; have HR32 : Aside0 (Kd.R Kd.string 9 wb.drew w0.heap.size (fun k => oki k ∧ some k ≠ (Value.slice A1 x.f1.length c1).ownBlock) u3 x.f3) := ⟨by rw [hwb]; exact Kd.R_drew (Kd.R_alloc HR3.out _)⟩; have HR42 : Aside0 (Kd.R Kd.string 9 wb.drew w0.heap.size (fun k => oki k ∧ some k ≠ (Value.slice A1 x.f1.length c1).ownBlock) u4 x.f4) := ⟨by rw [hwb]; exact Kd.R_drew (Kd.R_alloc HR4.out _)⟩; have HH2 : Aside0 (Kd.H kPt 31 wb.drew w0.heap.size (fun k => P k) (.slice (some ⟨gv, 0, none⟩) (q.length + 1) cv) (q ++ [x]) (q.length : Int) oki [.bool x.f0, .slice A1 x.f1.length c1, u2, u3, u4]) := ⟨by rw [hwb]; exact Kd.H_mono (Kd.H_drew (Kd.H_alloc HH.out _)) (fun k hk => hk.1)⟩; have HC2 : Aside0 (Kd.C Kd.string wb.drew Ap m p.f1) := ⟨by rw [hwb]; have h := (Kd.R_reads' H1.out.1).2.2; rw [← HM.out] at h; exact Kd.C_drew (Kd.C_alloc h _)⟩; have HVG : Aside0 (P gv ∧ w0.heap.size ≤ gv) := ⟨⟨((Kd.S_R HS.out).1 gv rfl).1, Kd.S_base HS.out gv rfl⟩⟩; clear HS H1 HB HGV HI HR1 HR2 HR3 HR4 HH hx1 hx0 hgv0 hgvl hwb hgb
     refine start_ (n := 15) (S := fun w' => w'.cell? ⟨gv, q.length * 5 + 1, none⟩ = some (.slice A1 x.f1.length c1) ∧ w'.cell? ⟨gb, 1, none⟩ = some (.slice Ap m cp)) (ds := [11, 14]) #[f_, f_, f_, f_, f_, f_, f_, f_, f_, f_, f_, f_, f_, f_, f_] (by kernel_rfl) rfl rfl ⟨hx2, hcb⟩ (fun hHeld => ?_); generalize wb.drew = w1 at HB2 HK2 hM2 hcb hx2 HI2 HGV2 HR12 HR22 HR32 HR42 HH2 HC2 hHeld ⊢; refine pure_ (i := 0) (N := some 34) (v := ?_) (a' := ?_) #[t_, f_, f_, f_, f_, f_, f_, f_, f_, f_, f_, f_, f_, f_, f_] rfl rfl (by kernel_rfl) (fun _ _ _ h => h) (Or.inl ⟨by rfl, ?_⟩) ?_ ?_
     rotate_left
     ·intro w'; go_simp
      with_reducible rfl
     rotate_left
     ·simp only [Act.put, List.setIfInBounds_toArray, List.set_cons_zero, List.set_cons_succ, i64_w, i32_w]
      rfl
     refine pure_ (i := 1) (N := some 35) (v := ?_) (a' := ?_) #[t_, t_, f_, f_, f_, f_, f_, f_, f_, f_, f_, f_, f_, f_, f_] rfl rfl (by kernel_rfl) (fun _ _ _ h => h) (Or.inl ⟨by rfl, ?_⟩) ?_ ?_
     rotate_left
     ·intro w'; go_simp
      with_reducible rfl
     rotate_left
     ·simp only [Act.put, List.setIfInBounds_toArray, List.set_cons_zero, List.set_cons_succ, i64_w, i32_w]
      rfl
     refine pure_ (i := 2) (N := some 36) (v := ?_) (a' := ?_) #[t_, t_, t_, f_, f_, f_, f_, f_, f_, f_, f_, f_, f_, f_, f_] rfl rfl (by kernel_rfl) (fun _ _ _ h => h) (Or.inl ⟨by rfl, ?_⟩) ?_ ?_
     rotate_left
     ·intro w'; go_simp
      with_reducible rfl
     rotate_left
     ·simp only [Act.put, List.setIfInBounds_toArray, List.set_cons_zero, List.set_cons_succ, i64_w, i32_w]
      rfl
     refine pure_ (i := 3) (N := some 37) (v := ?_) (a' := ?_) #[t_, t_, t_, t_, f_, f_, f_, f_, f_, f_, f_, f_, f_, f_, f_] rfl rfl (by kernel_rfl) (fun _ _ _ h => h) (Or.inl ⟨by rfl, ?_⟩) ?_ ?_
     rotate_left
     ·intro w'; go_simp
      with_reducible rfl
     rotate_left
     ·simp only [Act.put, List.setIfInBounds_toArray, List.set_cons_zero, List.set_cons_succ, i64_w, i32_w]
      rfl
     refine pure_ (i := 4) (N := some 38) (v := ?_) (a' := ?_) #[t_, t_, t_, t_, t_, f_, f_, f_, f_, f_, f_, f_, f_, f_, f_] rfl rfl (by kernel_rfl) (fun _ _ _ h => h) (Or.inl ⟨by rfl, ?_⟩) ?_ ?_
     rotate_left
     ·intro w'; go_simp
      with_reducible rfl
     rotate_left
     ·simp only [Act.put, List.setIfInBounds_toArray, List.set_cons_zero, List.set_cons_succ, i64_w, i32_w]
      rfl
     refine pure_ (i := 5) (N := some 39) (v := ?_) (a' := ?_) #[t_, t_, t_, t_, t_, t_, f_, f_, f_, f_, f_, f_, f_, f_, f_] rfl rfl (by kernel_rfl) (fun _ _ _ h => h) (Or.inl ⟨by rfl, ?_⟩) ?_ ?_
     rotate_left
     ·intro w'; go_simp
      with_reducible rfl
     rotate_left
     ·simp only [Act.put, List.setIfInBounds_toArray, List.set_cons_zero, List.set_cons_succ, i64_w, i32_w]
      rfl
     refine pure_ (i := 6) (N := some 40) (v := ?_) (a' := ?_) #[t_, t_, t_, t_, t_, t_, t_, f_, f_, f_, f_, f_, f_, f_, f_] rfl rfl (by kernel_rfl) (fun _ _ _ h => h) (Or.inl ⟨by rfl, ?_⟩) ?_ ?_
     rotate_left
     ·intro w'; go_simp
      with_reducible rfl
     rotate_left
     ·simp only [Act.put, List.setIfInBounds_toArray, List.set_cons_zero, List.set_cons_succ, i64_w, i32_w]
      rfl
     refine pure_ (i := 7) (N := some 41) (v := ?_) (a' := ?_) #[t_, t_, t_, t_, t_, t_, t_, t_, f_, f_, f_, f_, f_, f_, f_] rfl rfl (by kernel_rfl) (fun _ _ _ h => h) (Or.inl ⟨by rfl, ?_⟩) ?_ ?_
     rotate_left
     ·intro w'; go_simp
      with_reducible rfl
     rotate_left
     ·simp only [Act.put, List.setIfInBounds_toArray, List.set_cons_zero, List.set_cons_succ, i64_w, i32_w]
      rfl
     refine pure_ (i := 9) (N := some 43) (v := ?_) (a' := ?_) #[t_, t_, t_, t_, t_, t_, t_, t_, f_, t_, f_, f_, f_, f_, f_] rfl rfl (by kernel_rfl) (fun _ _ _ h => h) (Or.inl ⟨by rfl, ?_⟩) ?_ ?_
     rotate_left
     ·intro w'; go_simp
      with_reducible rfl
     rotate_left
     ·simp only [Act.put, List.setIfInBounds_toArray, List.set_cons_zero, List.set_cons_succ, i64_w, i32_w]
      rfl
     refine take_ (i := 8) (N := some 42) (v := ?_) (a' := ?_) #[t_, t_, t_, t_, t_, t_, t_, t_, t_, t_, f_, f_, f_, f_, f_] rfl rfl (by kernel_rfl) (fun _ _ _ h => h) (Or.inl ⟨by rfl, ?_⟩) hHeld ?_ ?_
     rotate_left
     ·rintro w' ⟨s0, s1⟩; go_simp
      with_reducible rfl
     rotate_left
     ·simp only [Act.put, List.setIfInBounds_toArray, List.set_cons_zero, List.set_cons_succ, i64_w, i32_w]
      rfl
     refine take_ (i := 10) (N := some 44) (v := ?_) (a' := ?_) #[t_, t_, t_, t_, t_, t_, t_, t_, t_, t_, t_, f_, f_, f_, f_] rfl rfl (by kernel_rfl) (fun _ _ _ h => h) (Or.inl ⟨by rfl, ?_⟩) hHeld ?_ ?_
     rotate_left
     ·rintro w' ⟨s0, s1⟩; go_simp
      with_reducible rfl
     rotate_left
     ·simp only [Act.put, List.setIfInBounds_toArray, List.set_cons_zero, List.set_cons_succ, i64_w, i32_w]
      rfl
     refine last_ (i := 11) (N := some 45) #[t_, t_, t_, t_, t_, t_, t_, t_, t_, t_, t_, t_, f_, f_, f_] rfl rfl (by kernel_rfl) (by decide) (fun K hK => ?_); refine Kd.R_append_rows_step Kd.string (w0 := w0) w0.heap.size (by rfl) (.tmp 42) (.tmp 44) 23 9 (.string ⟨#[]⟩) 16 rfl Try.underlying23 info9 rfl (by decide) (by omega) (.slice A1 x.f1.length c1) x.f1 p.f1 Ap m cp (fun k => oki k ∨ w1.heap.size ≤ k) (fun _ => False) rfl rfl ?aO HC2.out (fun _ _ h => h) (fun _ h => h.elim) (fun k hk => .inr hk) HB2.out (below_size HB2.out) ?aL ?_
     (case aO => exact Kd.R_mono HR12.out (fun k hk => .inl hk))
     (case aL => have h1 := HP.out.2 x (by simp); have h2 := HP.out.1; have h3 := HN.out; omega)
     intro v5 w5 ho hb hg hat; have hgne : ∀ k, (Value.slice A1 x.f1.length c1).ownBlock = some k → oki k := HR12.out.1; have HGV5 := Aside0.mk (blk_grown HGV2.out hg (fun h => (HI2.out gv (hgne gv h.symm)).1.2 rfl)); have HK5 := Aside0.mk (Kept.of_grown hg HK2.out (fun k hk => .inl (HI2.out k (hgne k hk)).1.1.1)); have hzg5 : w5.frozen? ⟨gv, q.length * 5 + 1, none⟩ = false := blk_frozen HGV5.out _; have hx5 : w5.cell? ⟨gv, q.length * 5 + 1, none⟩ = some (.slice A1 x.f1.length c1) := (cell_grown hx2 HGV2.out hg (fun h => (HI2.out gv (hgne gv h.symm)).1.2 rfl)); have HS5 := Aside0.mk (last_backP (P := P) (by rfl) HH2.out hM2 HR22.out HR32.out HR42.out hgne (fun k hk => (HI2.out k hk).2) ho hg hat); obtain ⟨A5, n5, c5, rfl⟩ : ∃ A n c, v5 = .slice A n c := (by obtain ⟨A5, c5, h5⟩ := Kd.R_slice ho; exact ⟨A5, _, c5, h5⟩); refine hK.out _ _ ?_; clear hK K; refine norm_ (a' := ?_) ?_ ?_
     rotate_left
     ·show Act.put _ (some 45) _ = _
      simp only [Act.put, List.setIfInBounds_toArray, List.set_cons_zero, List.set_cons_succ, i64_w, i32_w]
      rfl
     refine pure_ (i := 12) (N := some 46) (v := ?_) (a' := ?_) #[t_, t_, t_, t_, t_, t_, t_, t_, t_, t_, t_, t_, t_, f_, f_] rfl rfl (by kernel_rfl) (fun _ _ _ h => h) (Or.inl ⟨by rfl, ?_⟩) ?_ ?_
     rotate_left
     ·intro w'; go_simp
      with_reducible rfl
     rotate_left
     ·simp only [Act.put, List.setIfInBounds_toArray, List.set_cons_zero, List.set_cons_succ, i64_w, i32_w]
      rfl
     refine pure_ (i := 13) (N := some 47) (v := ?_) (a' := ?_) #[t_, t_, t_, t_, t_, t_, t_, t_, t_, t_, t_, t_, t_, t_, f_] rfl rfl (by kernel_rfl) (fun _ _ _ h => h) (Or.inl ⟨by rfl, ?_⟩) ?_ ?_
     rotate_left
     ·intro w'; go_simp
      with_reducible rfl
     rotate_left
     ·simp only [Act.put, List.setIfInBounds_toArray, List.set_cons_zero, List.set_cons_succ, i64_w, i32_w]
      rfl
     refine last_ (i := 14) (N := none) #[t_, t_, t_, t_, t_, t_, t_, t_, t_, t_, t_, t_, t_, t_, t_] rfl rfl (by kernel_rfl) (by decide) (fun K hK => ?_); refine skip_ (w1 := ?_) (by rfl) rfl ?_ ?_
     rotate_left
     ·go_simp
      rfl
     refine hK.out _ _ ?_; clear hK K; refine done_ (by kernel_rfl) ?_; go_wp2; go_ret
     exact ⟨_, rfl, by rw [HE.out]; exact HS5.out, below_set hb HVG.out.2, HK5.out.setCell (.inl HVG.out.1) _⟩
 | true =>
  have HE := Aside0.mk (putP_true (ps := ps) hpf.symm); clear hpf; have HNN := Aside0.mk hn; clear hn; by_cases e0 : 0 < n
  ·(have q0 : (0 : Int) < (n : Int) := by omega); go_wp2_with (first | ((with_reducible refine gate_builtin (b := .append) (xs := #[.tmp 49, .tmp 51]) rfl ?_); at_builtin; refine Kd.S_append kPt (w0 := w0) w0.heap.size rfl (.tmp 49) (.tmp 51) 26 31 (.agg #[.bool false, .slice none 0 0, .slice none 0 0, .slice none 0 0, .slice none 0 0]) 104 rfl Try.underlying26 infoPt rfl (by decide) (by omega) (.slice Av n cv) ps p [.bool true, .slice Ap m cp, v2, v3, v4] (fun k => P k) (fun k => Z ≤ k) rfl (congrArg (fun b => Value.slice (some ⟨b, 0, none⟩) 1 1) (show w.heap.size + 1 = (w.alloc (.cells #[.bool true, .slice Ap m cp, v2, v3, v4] 31)).heap.size by simp)) ⟨_, _, _, _, by rw [← HPF.out], Kd.R_alloc H1.out.1 _, Kd.R_alloc H1.out.2.1 _, Kd.R_alloc H1.out.2.2.1 _, Kd.R_alloc H1.out.2.2.2 _⟩ (fun k hk => ⟨HX.out.1 k hk, fun h2 => Nat.lt_irrefl _ (Nat.lt_of_lt_of_le ((Kd.S_R HS.out).1 k h2.symm).2 hk)⟩) (fun k hk => HX.out.1 k (Nat.le_trans HX.out.2 (Nat.le_trans (below_size (below_alloc (Below.refl w.heap.size w) _)) hk))) (Kd.S_mono (Kd.S_alloc HS.out _) (fun k hk => ⟨hk.1, Nat.not_le.mpr hk.2⟩)) (below_alloc HB.out _) (below_size (below_alloc HB.out _)) ?aL ?_; (case aL => have h1 := HP.out.1; have h2 := HN.out; omega); intro v5 w5 ho hb hg hat)); go_ret; exact ⟨_, rfl, by rw [HE.out]; exact ho, hb, Kept.of_grown hg ((Kept.refl _ _).alloc _) (fun k hk => .inl ((Kd.S_R HS.out).1 k hk).1)⟩
  ·(have q0 : ¬ (0 : Int) < (n : Int) := by omega); go_wp2_with (first | ((with_reducible refine gate_builtin (b := .append) (xs := #[.tmp 49, .tmp 51]) rfl ?_); at_builtin; refine Kd.S_append kPt (w0 := w0) w0.heap.size rfl (.tmp 49) (.tmp 51) 26 31 (.agg #[.bool false, .slice none 0 0, .slice none 0 0, .slice none 0 0, .slice none 0 0]) 104 rfl Try.underlying26 infoPt rfl (by decide) (by omega) (.slice Av n cv) ps p [.bool true, .slice Ap m cp, v2, v3, v4] (fun k => P k) (fun k => Z ≤ k) rfl (congrArg (fun b => Value.slice (some ⟨b, 0, none⟩) 1 1) (show w.heap.size + 1 = (w.alloc (.cells #[.bool true, .slice Ap m cp, v2, v3, v4] 31)).heap.size by simp)) ⟨_, _, _, _, by rw [← HPF.out], Kd.R_alloc H1.out.1 _, Kd.R_alloc H1.out.2.1 _, Kd.R_alloc H1.out.2.2.1 _, Kd.R_alloc H1.out.2.2.2 _⟩ (fun k hk => ⟨HX.out.1 k hk, fun h2 => Nat.lt_irrefl _ (Nat.lt_of_lt_of_le ((Kd.S_R HS.out).1 k h2.symm).2 hk)⟩) (fun k hk => HX.out.1 k (Nat.le_trans HX.out.2 (Nat.le_trans (below_size (below_alloc (Below.refl w.heap.size w) _)) hk))) (Kd.S_mono (Kd.S_alloc HS.out _) (fun k hk => ⟨hk.1, Nat.not_le.mpr hk.2⟩)) (below_alloc HB.out _) (below_size (below_alloc HB.out _)) ?aL ?_; (case aL => have h1 := HP.out.1; have h2 := HN.out; omega); intro v5 w5 ho hb hg hat)); go_ret; exact ⟨_, rfl, by rw [HE.out]; exact ho, hb, Kept.of_grown hg ((Kept.refl _ _).alloc _) (fun k hk => .inl ((Kd.S_R HS.out).1 k hk).1)⟩
end Go.Proofs.Ytfpdkeolecmepaa.Q
end
section
namespace Go.Proofs.Ytfpdkeolecmepaa.Q
open Go.RowKit Go.Proofs.YtfpdkeolecmepaaW.PrintWords Go.Proofs.YtfpdkeolecmepaaW.PrintLast Go.Proofs.YtfpdkeolecmepaaW.PrintMore
attribute [local go_sem] max2_int min2_int max_two min_two max_three min_three max_four min_four   -- for this text's walks alone
set_option linter.unusedVariables false
set_option linter.unusedSimpArgs false
def spec_l1Same.l0 : Nat → List ByteArray → List ByteArray → Int → Option (Bool)
 | 0, _, _, _ => none
 | k + 1, x0, x1, x5 => if x5 < (x0.length : Int) then (if 0 ≤ x5 then (if x5 < (x1.length : Int) then (if (rdOf ByteArray.empty x0 x5).toList = (rdOf ByteArray.empty x1 x5).toList then (spec_l1Same.l0 k x0 x1 (wrap64 (x5 + 1))) else (some false)) else (none)) else (none)) else (some true)
def spec_l1Same.f (k : Nat) (l0 : List ByteArray) (l1 : List ByteArray) : Option (Bool) := if (l0.length : Int) = (l1.length : Int) then (spec_l1Same.l0 k l0 l1 0) else (some false)
set_option maxHeartbeats 8000000 in
set_option maxRecDepth 100000 in
theorem spec_l1Same.calls (k : Nat) (A0 : Option Addr) (c0 : Nat) (l0 : List ByteArray) (A1 : Option Addr) (c1 : Nat) (l1 : List ByteArray) (r : Bool) (w : World) (hr0 : Kd.C Kd.string w A0 l0.length l0) (hc0 : l0.length ≤ c0) (hr1 : Kd.C Kd.string w A1 l1.length l1) (hc1 : l1.length ≤ c1) (h : spec_l1Same.f k l0 l1 = some r) :
 Calls Try.prog 92 #[.slice A0 l0.length c0, .slice A1 l1.length c1] w fun e w' => e = .returned (.bool r) ∧ Drawn0 w w' := by
 have HR0 := Aside0.mk hr0; have HC0 := Aside0.mk hc0; clear hr0 hc0; have HR1 := Aside0.mk hr1; have HC1 := Aside0.mk hc1; clear hr1 hc1; have H : (if (l0.length : Int) = (l1.length : Int) then (spec_l1Same.l0 k l0 l1 0) else (some false)) = some r := h; clear h; by_cases c3 : (l0.length : Int) = (l1.length : Int)
 ·rw [if_pos c3] at H; have c3b0 : ((l0.length : Int) == (l1.length : Int)) = true := beq_iff_eq.mpr c3; have c3b1 : ((l0.length : Int) != (l1.length : Int)) = false := bne_eq_false_iff_eq.mpr c3; (have c3b2 : (l0.length == l1.length) = true := by first | simpa using c3 | (simp at c3 ⊢; omega)); clear c3; have H' := Aside0.mk H; clear H; go_enter Try.func92, Try.ntmps92; go_wp2; (repeat (go_quiet (fail); try go_wp2)); go_loopg [5] k (fun kq v5 w' => ∃ (x5_1 : Int), v5 = .int .i64 x5_1 ∧ Aside0 (spec_l1Same.l0 kq l0 l1 x5_1 = some r) ∧ Aside0 (kq ≤ k) ∧ Drawn0 w w')
  case atStart => exact ⟨(0), (by first | rfl | (simp; done) | (simp [*]; done)), H', ⟨Nat.le_refl _⟩, by repeat (first | exact Drawn0.refl _ | apply Drawn0.step)⟩
  case round =>
   clear H'; (try clear c1); (try clear p2); (try clear c3); (try clear c3b0); (try clear c3b1); (try clear c3b2); obtain ⟨x5_1, rfl, HA, HK1, ⟨m1, rfl⟩⟩ := hrel
   cases gk with
   | zero => exact absurd HA.out (by simp [spec_l1Same.l0])
   | succ k1 =>
    have H := HA.out; clear HA; simp only [spec_l1Same.l0] at H; by_cases c4 : x5_1 < (l0.length : Int)
    ·rw [if_pos c4] at H; have c4b0 : decide (x5_1 < (l0.length : Int)) = true := decide_eq_true c4; clear c4; by_cases c5 : 0 ≤ x5_1
     ·rw [if_pos c5] at H; have c5b0 : decide (0 ≤ x5_1) = true := decide_eq_true c5; clear c5; by_cases c6 : x5_1 < (l1.length : Int)
      ·rw [if_pos c6] at H; have c6b0 : decide (x5_1 < (l1.length : Int)) = true := decide_eq_true c6; clear c6; by_cases c7 : (rdOf ByteArray.empty l0 x5_1).toList = (rdOf ByteArray.empty l1 x5_1).toList
       ·rw [if_pos c7] at H; have c7b0 : ((rdOf ByteArray.empty l0 x5_1).toList == (rdOf ByteArray.empty l1 x5_1).toList) = true := beq_iff_eq.mpr c7; have c7b1 : ((rdOf ByteArray.empty l0 x5_1).toList != (rdOf ByteArray.empty l1 x5_1).toList) = false := bne_eq_false_iff_eq.mpr c7; clear c7; have H' := Aside0.mk H; clear H; have p330 : 0 ≤ (x5_1 : Int) := of_decide_eq_true (by assumption); have q330 : x5_1 < (l0.length : Int) := of_decide_eq_true (by assumption); obtain ⟨ad330, e330, hx330_0⟩ := Kd.at_string HR0.out x5_1 p330 q330; cases e330; replace p330 := eq_true p330; replace q330 := eq_true q330; have p331 : 0 ≤ (x5_1 : Int) := of_decide_eq_true (by assumption); have q331 : x5_1 < (l1.length : Int) := of_decide_eq_true (by assumption); obtain ⟨ad331, e331, hx331_0⟩ := Kd.at_string HR1.out x5_1 p331 q331; cases e331; replace p331 := eq_true p331; replace q331 := eq_true q331; go_wp2; (repeat (go_quiet (fail); try go_wp2)); go_roundg k1
        case measure => have := HK1.out; omega
        case rel => exact ⟨(wrap64 (x5_1 + 1)), (by first | rfl | (simp; done) | (simp [*]; done)), H', ⟨by have := HK1.out; omega⟩, by repeat (first | exact Drawn0.refl _ | apply Drawn0.step)⟩
       ·rw [if_neg c7] at H; have c7b0 : ((rdOf ByteArray.empty l0 x5_1).toList == (rdOf ByteArray.empty l1 x5_1).toList) = false := beq_eq_false_iff_ne.mpr c7; have c7b1 : ((rdOf ByteArray.empty l0 x5_1).toList != (rdOf ByteArray.empty l1 x5_1).toList) = true := bne_iff_ne.mpr c7; obtain rfl := Option.some.inj H; have p330 : 0 ≤ (x5_1 : Int) := of_decide_eq_true (by assumption); have q330 : x5_1 < (l0.length : Int) := of_decide_eq_true (by assumption); obtain ⟨ad330, e330, hx330_0⟩ := Kd.at_string HR0.out x5_1 p330 q330; cases e330; replace p330 := eq_true p330; replace q330 := eq_true q330; have p331 : 0 ≤ (x5_1 : Int) := of_decide_eq_true (by assumption); have q331 : x5_1 < (l1.length : Int) := of_decide_eq_true (by assumption); obtain ⟨ad331, e331, hx331_0⟩ := Kd.at_string HR1.out x5_1 p331 q331; cases e331; replace p331 := eq_true p331; replace q331 := eq_true q331; go_wp2; (repeat (go_quiet (fail); try go_wp2)); go_ret; exact ⟨by first | rfl | (simp; done) | (simp [*]; done), by repeat (first | exact Drawn0.refl _ | apply Drawn0.step)⟩
      ·rw [if_neg c6] at H; exact absurd H (by simp)
     ·rw [if_neg c5] at H; exact absurd H (by simp)
    ·rw [if_neg c4] at H; have c4b0 : decide (x5_1 < (l0.length : Int)) = false := decide_eq_false c4; clear c4; obtain rfl := Option.some.inj H; go_wp2; (repeat (go_quiet (fail); try go_wp2)); go_ret; exact ⟨by first | rfl | (simp; done) | (simp [*]; done), by repeat (first | exact Drawn0.refl _ | apply Drawn0.step)⟩
 ·rw [if_neg c3] at H; have c3b0 : ((l0.length : Int) == (l1.length : Int)) = false := beq_eq_false_iff_ne.mpr c3; have c3b1 : ((l0.length : Int) != (l1.length : Int)) = true := bne_iff_ne.mpr c3; (have c3b2 : (l0.length == l1.length) = false := by first | simpa using c3 | (simp at c3 ⊢; omega)); obtain rfl := Option.some.inj H; go_enter Try.func92, Try.ntmps92; go_wp2; (repeat (go_quiet (fail); try go_wp2)); go_ret; exact ⟨by first | rfl | (simp; done) | (simp [*]; done), by repeat (first | exact Drawn0.refl _ | apply Drawn0.step)⟩
end Go.Proofs.Ytfpdkeolecmepaa.Q
end
