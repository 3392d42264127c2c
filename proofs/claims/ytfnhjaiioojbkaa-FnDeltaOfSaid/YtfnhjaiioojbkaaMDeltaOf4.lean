/- A part of the proof of DeltaOf: functions of the program and the reference, each with what it comes to. -/
import Derived.Test.YtfnhjaiioojbkaaMDeltaOf0
import Derived.Test.YtfnhjaiioojbkaaMDeltaOf1
import Derived.Test.YtfnhjaiioojbkaaMDeltaOf3
set_option linter.unusedVariables false
set_option linter.unusedSimpArgs false
section
namespace Go.Proofs.Ytfnhjaiioojbkaa.Q
open Go.RowKit Go.Proofs.YtfnhjaiioojbkaaW.PrintWords Go.Proofs.YtfnhjaiioojbkaaW.PrintLast Go.Proofs.YtfnhjaiioojbkaaW.PrintMore
attribute [local go_sem] max2_int min2_int max_two min_two max_three min_three max_four min_four   -- for this text's walks alone
set_option linter.unusedVariables false
set_option linter.unusedSimpArgs false
def spec_l13Of.l0 : Nat → List ByteArray → List ByteArray → List (S39) → Option ((List (S39)))
 | 0, _, _, _ => none
 | k + 1, x0, x1, x5 => if (x1.length : Int) > 0 then ((spec_l13Run.f k x0 x1).bind fun bt409 => (if bt409.2 > 0 then (if x5.length < 3518437208883 then (if 0 ≤ bt409.2 then (if bt409.2 ≤ (x1.length : Int) then (spec_l13Of.l0 k x0 (x1.drop (bt409.2 : Int).toNat) (x5 ++ [(⟨bt409.1, bt409.2, ([] : List ByteArray)⟩ : S39)])) else (none)) else (none)) else (none)) else (if (wrap64 ((x5.length : Int) - 1)) ≥ 0 then (if 0 ≤ (wrap64 ((x5.length : Int) - 1)) then (if (wrap64 ((x5.length : Int) - 1)) < (x5.length : Int) then (if ((rd_T39 x5 (wrap64 ((x5.length : Int) - 1))).f1) = 0 then (if 0 < (x1.length : Int) then (if ((rd_T39 x5 (wrap64 ((x5.length : Int) - 1))).f2).length < 8796093022208 then (if 1 ≤ (x1.length : Int) then (spec_l13Of.l0 k x0 (x1.drop 1) (x5.set ((wrap64 ((x5.length : Int) - 1)) : Int).toNat (⟨(rd_T39 x5 (wrap64 ((x5.length : Int) - 1))).f0, (rd_T39 x5 (wrap64 ((x5.length : Int) - 1))).f1, (((rd_T39 x5 (wrap64 ((x5.length : Int) - 1))).f2) ++ [rdOf ByteArray.empty x1 0])⟩ : S39))) else (none)) else (none)) else (none)) else (if 0 < (x1.length : Int) then (if x5.length < 3518437208883 then (if 1 ≤ (x1.length : Int) then (spec_l13Of.l0 k x0 (x1.drop 1) (x5 ++ [(⟨0, 0, (([rdOf ByteArray.empty x1 0] : List ByteArray))⟩ : S39)])) else (none)) else (none)) else (none))) else (none)) else (none)) else (if 0 < (x1.length : Int) then (if x5.length < 3518437208883 then (if 1 ≤ (x1.length : Int) then (spec_l13Of.l0 k x0 (x1.drop 1) (x5 ++ [(⟨0, 0, (([rdOf ByteArray.empty x1 0] : List ByteArray))⟩ : S39)])) else (none)) else (none)) else (none))))) else (some x5)
def spec_l13Of.f (k : Nat) (l0 : List ByteArray) (l1 : List ByteArray) : Option ((List (S39))) := spec_l13Of.l0 k l0 l1 (([] : List (S39)))
theorem spec_l13Of.mono_l : ∀ k, (∀ y0 y1 y2, LeO (spec_l13Of.l0 k y0 y1 y2) (spec_l13Of.l0 (k + 1) y0 y1 y2))
 | 0 => fun _ _ _ r h => by simp [spec_l13Of.l0] at h
 | k + 1 => by
  have ih0 := spec_l13Of.mono_l k
  · intro y0 y1 y2
    unfold spec_l13Of.l0
    repeat' first
    | (with_reducible exact ih0 _ _ _)
    | (with_reducible exact spec_l13Run.mono _ _ _)
    | (with_reducible exact LeO.refl _)
    | (with_reducible exact LeO.none _)
    | (with_reducible refine LeO.ite ?_ ?_)
    | (with_reducible refine LeO.bind ?_ (fun _ => ?_))
    | exact ih0 _ _ _
    | exact spec_l13Run.mono _ _ _
    | exact LeO.none _
    | refine LeO.ite ?_ ?_
    | refine LeO.bind ?_ (fun _ => ?_)
theorem spec_l13Of.mono : ∀ a0 a1 k, LeO (spec_l13Of.f k a0 a1) (spec_l13Of.f (k + 1) a0 a1) := by
 intro a0 a1 k
 have ih0 := spec_l13Of.mono_l k
 unfold spec_l13Of.f
 repeat' first
  | (with_reducible exact ih0 _ _ _)
  | (with_reducible exact spec_l13Run.mono _ _ _)
  | (with_reducible exact LeO.refl _)
  | (with_reducible exact LeO.none _)
  | (with_reducible refine LeO.ite ?_ ?_)
  | (with_reducible refine LeO.bind ?_ (fun _ => ?_))
  | exact ih0 _ _ _
  | exact spec_l13Run.mono _ _ _
  | exact LeO.none _
  | refine LeO.ite ?_ ?_
  | refine LeO.bind ?_ (fun _ => ?_)
def spec_l13Of.T11 : Bool × List (List Nat × List Nat) := (true, [([], []), ([], []), ([], []), ([], []), ([2, 3], [2, 3]), ([4], [4]), ([5], [5]), ([], []), ([7], [7]), ([8], [8]), ([9], [9]), ([6, 10], [6, 10]), ([0, 1, 0, 1, 2, 3, 4, 5, 6, 7, 8, 9, 10, 11], [0, 1]), ([12, 0, 1, 2, 3, 4, 5, 6, 7, 8, 9, 10, 11], [12]), ([13, 11, 11, 0, 1, 2, 3, 4, 5, 6, 7, 8, 9, 10, 11], [11, 13])])
def spec_l13Of.B11 : List Nat := [0, 0, 0, 0, 12, 28, 60, 0, 128, 384, 896, 2044, 4095, 8191, 16383]
theorem spec_l13Of.tab11 : rtab .any (opsOf Try.f72 11) = spec_l13Of.T11 := by kernel_rfl
theorem spec_l13Of.bits11 : waitsOk spec_l13Of.T11.2 spec_l13Of.B11 = true := by kernel_rfl
set_option maxHeartbeats 8000000 in
set_option maxRecDepth 100000 in
theorem spec_l13Of.calls (k : Nat) (A0 : Option Addr) (c0 : Nat) (l0 : List ByteArray) (P1_ : Nat → Prop) (A1 : Option Addr) (c1 : Nat) (l1 : List ByteArray) (r : List (S39)) (w : World) (hr0 : Kd.C Kd.string w A0 l0.length l0) (hc0 : l0.length ≤ c0) (hs1 : Kd.V Kd.string 9 w w.heap.size (fun k_ => P1_ k_) (.slice A1 l1.length c1) l1) (h : spec_l13Of.f k l0 l1 = some r) :
 Calls Try.prog 72 #[.slice A0 l0.length c0, .slice A1 l1.length c1] w fun e w' => ∃ v0_ : Value, e = .returned (v0_) ∧ Kd.S k39 39 w' w.heap.size (fun k_ => (w.heap.size ≤ k_)) v0_ r ∧ Below w.heap.size w w' := by
 have hu39 := Try.underlying39
 have HR0 := Aside0.mk hr0
 have HC0 := Aside0.mk hc0
 clear hr0 hc0
 have HO1 := Aside0.mk (show Kd.V Kd.string 9 w w.heap.size (fun k_ => (P1_ k_ ∧ k_ < w.heap.size)) (.slice A1 l1.length c1) l1 from Kd.V_bound hs1)
 have HB := Aside0.mk (Below.refl w.heap.size w)
 have H : (spec_l13Of.l0 k l0 l1 (([] : List (S39)))) = some r := h
 clear h
 obtain ⟨y406, hy406⟩ : ∃ y_ : List (S39), y_ = (([] : List (S39))) := ⟨_, rfl⟩
 replace H : (spec_l13Of.l0 k l0 l1 y406) = some r := by first | (rw [hy406]; with_reducible exact H) | (have H2_ := (Option.bind_some _ _).symm.trans H; rw [hy406]; with_reducible exact H2_) | (have H2_ := (Option.bind_some _ _).symm.trans H; with_reducible exact H2_) | with_reducible exact H | (rw [hy406]; exact H) | exact H
 have Ny406 := Aside0.mk hy406
 clear hy406
 have H' := Aside0.mk H
 clear H
 go_enter Try.func72, Try.ntmps72
 go_wp2_with (first | ((with_reducible refine gate_dst (N := 9) rfl ?_); refine Kd.S_lit k39 _ 39 ?hg (N := 9) ?hd (xs := ([] : List (S39))) (inner := []) (ok := fun _ => True) (okp := fun _ => True) ?hr ?hp (fun _ hk => hk) trivial (Below.refl _ _) (Nat.le_refl _) (by simp) ?_; (case hd => rfl); (case hg => rfl); (case hr => first | (go_simp; done) | (go_simp; rfl)); (case hp => exact (Reps.none _ _)); intro v407 w3 ho4 hb hg_ hnew_; clear hg_ hnew_; (first | rw [← Ny406.out] at ho4 | (simp only [Int.reduceToNat] at ho4; rw [← Ny406.out] at ho4)); have n0_ := Aside0.mk (Kd.V_elder' (by (with_reducible repeat (first | apply Kd.V_alloc | apply Kd.V_drewN | apply Kd.V_drew)); exact HO1.out) (Kd.S_base ho4) hb); have n1_ := Aside0.mk (Kd.S_lower (Kd.S_newM (M := fun k_ => (w.heap.size ≤ k_)) ho4 (below_size (by repeat (first | (with_reducible first | exact HB.out | apply below_alloc | apply pw_below_drewN | apply below_drew1) | exact HB.out))) (fun k_ h_ => h_)) (below_size (by repeat (first | (with_reducible first | exact HB.out | apply below_alloc | apply pw_below_drewN | apply below_drew1) | exact HB.out)))); have n2_ := Aside0.mk (below_step (by repeat (first | (with_reducible first | exact HB.out | apply below_alloc | apply pw_below_drewN | apply below_drew1) | exact HB.out)) hb); clear HO1; clear HB; have HO1 := n0_; have HO408 := n1_; have HB := n2_; clear n0_ n1_ n2_; clear hb ho4))
 go_loopg [1, 5] k (fun kq v1 v5 w' => ∃ (x1_1 : List ByteArray) (x5_1 : List (S39)), Aside0 (spec_l13Of.l0 kq l0 x1_1 x5_1 = some r) ∧ Aside0 (kq ≤ k) ∧ Aside0 (Kd.V Kd.string 9 w' w.heap.size (fun k_ => (P1_ k_ ∧ k_ < w.heap.size) ∧ some k_ ≠ (v5 : Value).ownBlock) v1 x1_1) ∧ Aside0 (Kd.S k39 39 w' w.heap.size (fun k_ => (w.heap.size ≤ k_)) v5 x5_1) ∧ Aside0 (Below w.heap.size w w'))
 case atStart => exact ⟨(l1), (y406), H', ⟨Nat.le_refl _⟩, ⟨by (with_reducible repeat (first | apply Kd.V_alloc | apply Kd.V_drewN | apply Kd.V_drew)); exact HO1.out⟩, ⟨by (with_reducible repeat (first | apply Kd.S_alloc | apply Kd.S_drewN | apply Kd.S_drew)); exact Kd.S_mono HO408.out (fun _ hk => hk.1)⟩, ⟨by repeat (first | (with_reducible first | exact HB.out | apply below_alloc | apply pw_below_drewN | apply below_drew1) | exact HB.out)⟩⟩
 case round =>
  clear H'
  try clear c1
  try clear p2
  obtain ⟨x1_1, x5_1, HA, HK1, HO_1, HO_5, HB⟩ := hrel
  cases gk with
  | zero => exact absurd HA.out (by simp [spec_l13Of.l0])
  | succ k1 =>
   have H := HA.out
   clear HA
   simp only [spec_l13Of.l0] at H
   by_cases c5 : (x1_1.length : Int) > 0
   · rw [if_pos c5] at H
     have c5b0 : decide (0 < (x1_1.length : Int)) = true := decide_eq_true c5
     have c5b1 : decide (0 < x1_1.length) = true := decide_eq_true (by omega)
     clear c5
     replace H := Option.bind_eq_some_iff.mp H
     obtain ⟨⟨t409, t410⟩, A60, H⟩ := H
     replace H : (if t410 > 0 then (if x5_1.length < 3518437208883 then (if 0 ≤ t410 then (if t410 ≤ (x1_1.length : Int) then (spec_l13Of.l0 k1 l0 (x1_1.drop (t410 : Int).toNat) (x5_1 ++ [(⟨t409, t410, ([] : List ByteArray)⟩ : S39)])) else (none)) else (none)) else (none)) else (if (wrap64 ((x5_1.length : Int) - 1)) ≥ 0 then (if 0 ≤ (wrap64 ((x5_1.length : Int) - 1)) then (if (wrap64 ((x5_1.length : Int) - 1)) < (x5_1.length : Int) then (if ((rd_T39 x5_1 (wrap64 ((x5_1.length : Int) - 1))).f1) = 0 then (if 0 < (x1_1.length : Int) then (if ((rd_T39 x5_1 (wrap64 ((x5_1.length : Int) - 1))).f2).length < 8796093022208 then (if 1 ≤ (x1_1.length : Int) then (spec_l13Of.l0 k1 l0 (x1_1.drop 1) (x5_1.set ((wrap64 ((x5_1.length : Int) - 1)) : Int).toNat (⟨(rd_T39 x5_1 (wrap64 ((x5_1.length : Int) - 1))).f0, (rd_T39 x5_1 (wrap64 ((x5_1.length : Int) - 1))).f1, (((rd_T39 x5_1 (wrap64 ((x5_1.length : Int) - 1))).f2) ++ [rdOf ByteArray.empty x1_1 0])⟩ : S39))) else (none)) else (none)) else (none)) else (if 0 < (x1_1.length : Int) then (if x5_1.length < 3518437208883 then (if 1 ≤ (x1_1.length : Int) then (spec_l13Of.l0 k1 l0 (x1_1.drop 1) (x5_1 ++ [(⟨0, 0, (([rdOf ByteArray.empty x1_1 0] : List ByteArray))⟩ : S39)])) else (none)) else (none)) else (none))) else (none)) else (none)) else (if 0 < (x1_1.length : Int) then (if x5_1.length < 3518437208883 then (if 1 ≤ (x1_1.length : Int) then (spec_l13Of.l0 k1 l0 (x1_1.drop 1) (x5_1 ++ [(⟨0, 0, (([rdOf ByteArray.empty x1_1 0] : List ByteArray))⟩ : S39)])) else (none)) else (none)) else (none)))) = some r := H
     have A6 := Aside0.mk A60
     clear A60
     by_cases c7 : t410 > 0
     · rw [if_pos c7] at H
       have c7b0 : decide (0 < t410) = true := decide_eq_true c7
       clear c7
       by_cases c8 : x5_1.length < 3518437208883
       · rw [if_pos c8] at H
         have LMc8 := Aside0.mk c8
         clear c8
         obtain ⟨y411, hy411⟩ : ∃ y_ : List (S39), y_ = (x5_1 ++ [(⟨t409, t410, ([] : List ByteArray)⟩ : S39)]) := ⟨_, rfl⟩
         replace H : (if 0 ≤ t410 then (if t410 ≤ (x1_1.length : Int) then (spec_l13Of.l0 k1 l0 (x1_1.drop (t410 : Int).toNat) y411) else (none)) else (none)) = some r := by first | (rw [hy411]; with_reducible exact H) | (have H2_ := (Option.bind_some _ _).symm.trans H; rw [hy411]; with_reducible exact H2_) | (have H2_ := (Option.bind_some _ _).symm.trans H; with_reducible exact H2_) | with_reducible exact H | (rw [hy411]; exact H) | exact H
         have Ny411 := Aside0.mk hy411
         clear hy411
         by_cases c9 : 0 ≤ t410
         · rw [if_pos c9] at H
           have c9b0 := eq_true c9
           have c9b1 : decide (0 ≤ t410) = true := decide_eq_true c9
           clear c9
           by_cases c10 : t410 ≤ (x1_1.length : Int)
           · rw [if_pos c10] at H
             have c10b0 := eq_true c10
             have c10b1 : decide (t410 ≤ (x1_1.length : Int)) = true := decide_eq_true c10
             clear c10
             obtain ⟨y414, hy414⟩ : ∃ y_ : List ByteArray, y_ = (x1_1.drop (t410 : Int).toNat) := ⟨_, rfl⟩
             replace H : (spec_l13Of.l0 k1 l0 y414 y411) = some r := by first | (rw [hy414]; with_reducible exact H) | (have H2_ := (Option.bind_some _ _).symm.trans H; rw [hy414]; with_reducible exact H2_) | (have H2_ := (Option.bind_some _ _).symm.trans H; with_reducible exact H2_) | with_reducible exact H | (rw [hy414]; exact H) | exact H
             have Ny414 := Aside0.mk hy414
             clear hy414
             have H' := Aside0.mk H
             clear H
             obtain ⟨Ao11, co11, eo11⟩ := Kd.V_slice HO_1.out
             subst eo11
             go_wp2_with (first | ((with_reducible refine gate_callee (f := 104) rfl ?_); refine goesL_ (some 16) rfl rfl Try.func104 (by kernel_rfl) rfl #[.slice A0 l0.length c0, .slice Ao11 x1_1.length co11] rfl (by (try simp only [List.map_toArray, List.map_cons, List.map_nil]); first | done | rfl | (simp only [List.length_drop, List.length_take]; rfl)) ?_; (with_reducible refine (spec_l13Run.calls k1 _ _ l0 _ _ x1_1 t409 t410 _ ?side1 ?side2 ?side3 ?side4 A6.out).mono ?_); (case side1 => repeat (first | exact (Kd.C_below HR0.out HB.out) | (with_reducible refine Kd.C_alloc ?_ _) | (with_reducible refine Kd.C_drewN ?_ _) | (with_reducible refine Kd.C_drew ?_))); (case side2 => exact HC0.out); (case side3 => repeat (first | exact (Kd.V_reads' HO_1.out).2.2 | (with_reducible refine Kd.C_alloc ?_ _) | (with_reducible refine Kd.C_drewN ?_ _) | (with_reducible refine Kd.C_drew ?_))); (case side4 => exact (Kd.V_reads' HO_1.out).2.1); rintro e w' ⟨rfl, ⟨nd, rfl⟩⟩; refine ⟨_, rfl, ?_⟩; obtain ⟨Ao12, co12, eo12⟩ := Kd.S_slice HO_5.out; subst eo12) | ((with_reducible refine gate_builtin (b := .append) (xs := #[.tmp 35, .tmp 39]) rfl ?_); at_builtin; refine Kd.S_append k39 (w0 := w) w.heap.size rfl (.tmp 35) (.tmp 39) 25 39 (.agg #[(.int .i64 0), (.int .i64 0), (.slice none 0 0)]) 40 rfl Try.underlying25 info39 rfl (by decide) (by omega) (.slice Ao12 x5_1.length co12) x5_1 (⟨t409, t410, ([] : List ByteArray)⟩ : S39) [.int .i64 t409, .int .i64 t410, .slice none 0 0] (fun k_ => (w.heap.size ≤ k_)) (fun _ => False) rfl rfl ?aP (fun k_ hk_ => hk_.elim) ?aF ?aO ?aB ?aS ?aL ?_; (case aP => exact k39_mkM _ _ _ (⟨t409, t410, ([] : List ByteArray)⟩ : S39) (Kd.R_nil _ _ _ _ _)); (case aB => exact (by repeat (first | (with_reducible first | exact HB.out | apply below_alloc | apply pw_below_drewN | apply below_drew1) | exact HB.out))); (case aF => exact (fun k_ hk => (Nat.le_trans (below_size (by repeat (first | (with_reducible first | exact HB.out | apply below_alloc | apply pw_below_drewN | apply below_drew1) | exact HB.out))) hk))); (case aO => exact (by (with_reducible repeat (first | apply Kd.S_alloc | apply Kd.S_drewN | apply Kd.S_drew)); exact Kd.S_mono HO_5.out (fun k_ hk => ⟨hk, fun e_ => e_⟩))); (case aS => exact (below_size (by repeat (first | (with_reducible first | exact HB.out | apply below_alloc | apply pw_below_drewN | apply below_drew1) | exact HB.out)))); (case aL => have := LMc8.out; omega); intro v412 w13 ho hb hg hat; rw [← Ny411.out] at ho; have n0_ := Aside0.mk (Kd.V_afterv (ok := (fun k_ => (P1_ k_ ∧ k_ < w.heap.size))) (by (with_reducible repeat (first | apply Kd.V_alloc | apply Kd.V_drewN | apply Kd.V_drew)); exact HO_1.out) hg hat); have n1_ := Aside0.mk (hb); have n2_ := Aside0.mk (ho); clear HO_1; clear HB; clear HO_5; have HO_1 := n0_; have HB := n1_; have HO413 := n2_; clear n0_ n1_ n2_; clear ho hb hg hat; have q14 : (t410 : Int) ≤ ((x1_1.length : Int) : Int) := of_decide_eq_true (by assumption); obtain ⟨i014, hi014, _, hsz14, _⟩ := info_parts info9; have hroom14 : x1_1.length ≤ co11 := (Kd.V_reads' HO_1.out).2.1; have hC14 : Kd.F Kd.string _ _ Ao11 x1_1.length x1_1 := (Kd.V_at (base := w.heap.size) HO_1.out).2.2; have q014 : (0 : Int) ≤ (t410 : Int) := of_decide_eq_true (by assumption); have hcut14 := cut_from (P := Try.prog) 30 9 .i64 Try.underlying30 hi014 1 hsz14 Ao11 x1_1.length co11 t410 q014 q14; have hr14 := Kd.F_cut (m := (t410 : Int).toNat) (c := co11) hC14 (by omega) hroom14; obtain ⟨A14, hA14⟩ : ∃ A1, A1 = (if co11 = (t410 : Int).toNat then Ao11 else (Ao11 : Option Addr).map (·.add ((t410 : Int).toNat * 1))) := ⟨_, rfl⟩; obtain ⟨c14, hc14⟩ : ∃ c1, c1 = co11 - (t410 : Int).toNat := ⟨_, rfl⟩; have hy14 : y414.length = x1_1.length - (t410 : Int).toNat := (by rw [Ny414.out, List.length_drop] <;> omega); rw [show (x1_1).drop (t410 : Int).toNat = y414 from Ny414.out.symm] at hr14; replace hr14 : Kd.F Kd.string _ _ A14 y414.length y414 := (by rw [hA14]; exact hr14); rw [← hy14, ← hA14, ← hc14] at hcut14; have HO418 := Aside0.mk (show Kd.V Kd.string 9 _ w.heap.size _ (.slice A14 y414.length c14) y414 from Kd.V_mk (by rw [hy14, hc14]; exact Nat.sub_le_sub_right hroom14 _) hr14); have HC418 := Aside0.mk (show y414.length ≤ c14 from by rw [hy14, hc14]; exact Nat.sub_le_sub_right hroom14 _); clear hr14 hC14 hroom14 hi014 hsz14 hc14; have KY14 := Aside0.mk hy14; have KA14 := Aside0.mk hA14; clear hy14 hA14; replace q14 := eq_true q14))
             go_roundg k1
             case measure => have := HK1.out; omega
             case rel => exact ⟨(y414), (y411), H', ⟨by have := HK1.out; omega⟩, ⟨by (with_reducible repeat (first | apply Kd.V_alloc | apply Kd.V_drewN | apply Kd.V_drew)); exact HO418.out⟩, ⟨by (with_reducible repeat (first | apply Kd.S_alloc | apply Kd.S_drewN | apply Kd.S_drew)); exact HO413.out⟩, ⟨by repeat (first | (with_reducible first | exact HB.out | apply below_alloc | apply pw_below_drewN | apply below_drew1) | exact HB.out)⟩⟩
           · rw [if_neg c10] at H
             exact absurd H (by simp)
         · rw [if_neg c9] at H
           exact absurd H (by simp)
       · rw [if_neg c8] at H
         exact absurd H (by simp)
     · rw [if_neg c7] at H
       have c7b0 : decide (0 < t410) = false := decide_eq_false c7
       clear c7
       by_cases c15 : (wrap64 ((x5_1.length : Int) - 1)) ≥ 0
       · rw [if_pos c15] at H
         have c15b0 : decide (0 ≤ (wrap64 ((x5_1.length : Int) - 1))) = true := decide_eq_true c15
         clear c15
         obtain ⟨ji16, hji16⟩ : ∃ j_ : Int, (wrap64 ((x5_1.length : Int) - 1)) = j_ := ⟨_, rfl⟩
         replace H : (if 0 ≤ (ji16) then (if (ji16) < (x5_1.length : Int) then (if ((rd_T39 x5_1 (ji16)).f1) = 0 then (if 0 < (x1_1.length : Int) then (if ((rd_T39 x5_1 (ji16)).f2).length < 8796093022208 then (if 1 ≤ (x1_1.length : Int) then (spec_l13Of.l0 k1 l0 (x1_1.drop 1) (x5_1.set ((ji16) : Int).toNat (⟨(rd_T39 x5_1 (ji16)).f0, (rd_T39 x5_1 (ji16)).f1, (((rd_T39 x5_1 (ji16)).f2) ++ [rdOf ByteArray.empty x1_1 0])⟩ : S39))) else (none)) else (none)) else (none)) else (if 0 < (x1_1.length : Int) then (if x5_1.length < 3518437208883 then (if 1 ≤ (x1_1.length : Int) then (spec_l13Of.l0 k1 l0 (x1_1.drop 1) (x5_1 ++ [(⟨0, 0, (([rdOf ByteArray.empty x1_1 0] : List ByteArray))⟩ : S39)])) else (none)) else (none)) else (none))) else (none)) else (none)) = some r := by first | (rw [hji16] at H; exact H) | (simp only [hji16] at H ⊢; exact H)
         (try rw [hji16] at c15b0)
         (try rw [hji16] at A6)
         have hji16w : (IntKind.i64.wrap ((x5_1.length : Int) - 1)) = ji16 := (i64_w _).trans hji16
         by_cases c17 : 0 ≤ (ji16)
         · rw [if_pos c17] at H
           have c17b0 : decide (0 ≤ (ji16)) = true := decide_eq_true c17
           clear c17
           by_cases c18 : (ji16) < (x5_1.length : Int)
           · rw [if_pos c18] at H
             have c18b0 : decide ((ji16) < (x5_1.length : Int)) = true := decide_eq_true c18
             clear c18
             by_cases c19 : ((rd_T39 x5_1 (ji16)).f1) = 0
             · rw [if_pos c19] at H
               have c19b0 : (((rd_T39 x5_1 (ji16)).f1) == 0) = true := beq_iff_eq.mpr c19
               have c19b1 : (((rd_T39 x5_1 (ji16)).f1) != 0) = false := bne_eq_false_iff_eq.mpr c19
               clear c19
               by_cases c20 : 0 < (x1_1.length : Int)
               · rw [if_pos c20] at H
                 have c20b0 : decide (0 < (x1_1.length : Int)) = true := decide_eq_true c20
                 have c20b1 : decide (0 < x1_1.length) = true := decide_eq_true (by omega)
                 clear c20
                 by_cases c21 : ((rd_T39 x5_1 (ji16)).f2).length < 8796093022208
                 · rw [if_pos c21] at H
                   have LMc21 := Aside0.mk c21
                   clear c21
                   obtain ⟨y422, hy422⟩ : ∃ y_ : List ByteArray, y_ = (((rd_T39 x5_1 (ji16)).f2) ++ [rdOf ByteArray.empty x1_1 0]) := ⟨_, rfl⟩
                   replace H : (if 1 ≤ (x1_1.length : Int) then (spec_l13Of.l0 k1 l0 (x1_1.drop 1) (x5_1.set ((ji16) : Int).toNat (⟨(rd_T39 x5_1 (ji16)).f0, (rd_T39 x5_1 (ji16)).f1, y422⟩ : S39))) else (none)) = some r := by first | (rw [hy422]; with_reducible exact H) | (have H2_ := (Option.bind_some _ _).symm.trans H; rw [hy422]; with_reducible exact H2_) | (have H2_ := (Option.bind_some _ _).symm.trans H; with_reducible exact H2_) | with_reducible exact H | (rw [hy422]; exact H) | exact H
                   have Ny422 := Aside0.mk hy422
                   clear hy422
                   obtain ⟨y425, hy425⟩ : ∃ y_ : List (S39), y_ = (x5_1.set ((ji16) : Int).toNat (⟨(rd_T39 x5_1 (ji16)).f0, (rd_T39 x5_1 (ji16)).f1, y422⟩ : S39)) := ⟨_, rfl⟩
                   replace H : (if 1 ≤ (x1_1.length : Int) then (spec_l13Of.l0 k1 l0 (x1_1.drop 1) y425) else (none)) = some r := by first | (rw [hy425]; with_reducible exact H) | (have H2_ := (Option.bind_some _ _).symm.trans H; rw [hy425]; with_reducible exact H2_) | (have H2_ := (Option.bind_some _ _).symm.trans H; with_reducible exact H2_) | with_reducible exact H | (rw [hy425]; exact H) | exact H
                   have Ny425 := Aside0.mk hy425
                   clear hy425
                   by_cases c23 : 1 ≤ (x1_1.length : Int)
                   · rw [if_pos c23] at H
                     have c23b0 := eq_true c23
                     have c23b1 : decide (1 ≤ (x1_1.length : Int)) = true := decide_eq_true c23
                     clear c23
                     obtain ⟨y426, hy426⟩ : ∃ y_ : List ByteArray, y_ = (x1_1.drop 1) := ⟨_, rfl⟩
                     replace H : (spec_l13Of.l0 k1 l0 y426 y425) = some r := by first | (rw [hy426]; with_reducible exact H) | (have H2_ := (Option.bind_some _ _).symm.trans H; rw [hy426]; with_reducible exact H2_) | (have H2_ := (Option.bind_some _ _).symm.trans H; with_reducible exact H2_) | with_reducible exact H | (rw [hy426]; exact H) | exact H
                     have Ny426 := Aside0.mk hy426
                     clear hy426
                     have H' := Aside0.mk H
                     clear H
                     obtain ⟨Ao24, co24, eo24⟩ := Kd.V_slice HO_1.out
                     subst eo24
                     try go_wp2_with (first | ((with_reducible refine gate_callee (f := 104) rfl ?_); refine goesL_ (some 16) rfl rfl Try.func104 (by kernel_rfl) rfl #[.slice A0 l0.length c0, .slice Ao24 x1_1.length co24] rfl (by (try simp only [List.map_toArray, List.map_cons, List.map_nil]); first | done | rfl | (simp only [List.length_drop, List.length_take]; rfl)) ?_; (with_reducible refine (spec_l13Run.calls k1 _ _ l0 _ _ x1_1 t409 t410 _ ?side1 ?side2 ?side3 ?side4 A6.out).mono ?_); (case side1 => repeat (first | exact (Kd.C_below HR0.out HB.out) | (with_reducible refine Kd.C_alloc ?_ _) | (with_reducible refine Kd.C_drewN ?_ _) | (with_reducible refine Kd.C_drew ?_))); (case side2 => exact HC0.out); (case side3 => repeat (first | exact (Kd.V_reads' HO_1.out).2.2 | (with_reducible refine Kd.C_alloc ?_ _) | (with_reducible refine Kd.C_drewN ?_ _) | (with_reducible refine Kd.C_drew ?_))); (case side4 => exact (Kd.V_reads' HO_1.out).2.1); rintro e w' ⟨rfl, ⟨nd, rfl⟩⟩; refine ⟨_, rfl, ?_⟩; (try (rw [drewN_self wr]; generalize hq_ : World.drewN wr _ = wr; have n0_ : Aside0 (Kd.V Kd.string 9 wr w.heap.size (fun k_ => (P1_ k_ ∧ k_ < w.heap.size) ∧ some k_ ≠ (u5 : Value).ownBlock) (.slice Ao24 x1_1.length co24) x1_1) := ⟨by rw [← hq_]; exact (by (with_reducible repeat (first | apply Kd.V_alloc | apply Kd.V_drewN | apply Kd.V_drew)); exact HO_1.out)⟩; have n1_ : Aside0 (Kd.S k39 39 wr w.heap.size (fun k_ => (w.heap.size ≤ k_)) u5 x5_1) := ⟨by rw [← hq_]; exact (by (with_reducible repeat (first | apply Kd.S_alloc | apply Kd.S_drewN | apply Kd.S_drew)); exact HO_5.out)⟩; have n2_ : Aside0 (Below w.heap.size w wr) := ⟨by rw [← hq_]; exact (by repeat (first | (with_reducible first | exact HB.out | apply below_alloc | apply pw_below_drewN | apply below_drew1) | exact HB.out))⟩; clear HO_1 HO_5 HB hq_; have HO_1 := n0_; have HO_5 := n1_; have HB := n2_; clear n0_ n1_ n2_)); obtain ⟨Ao25, co25, eo25⟩ := Kd.S_slice HO_5.out; subst eo25; have p419 : 0 ≤ ((ji16) : Int) := of_decide_eq_true (by assumption); have q419 : (ji16) < (x5_1.length : Int) := of_decide_eq_true (by assumption); obtain ⟨ad419, A419_2, c419_2, e419, hx419_0, hx419_1, hx419_2, hl419_2, hi419_2⟩ := at_T39 (Kd.S_reads' HO_5.out).2.2 (ji16) p419 q419; cases e419; obtain ⟨ce419, hce419, hMe419, hcc419⟩ := Kd.S_get HO_5.out z39 (ji16) p419 (by first | exact q419 | exact of_decide_eq_true (by assumption) | (have e_ := (Kd.S_reads' HO_5.out).1; omega)); obtain ⟨ve419_2, rfl, ge419_2⟩ := k39_openM hMe419; have hv419_2 := hcc419 2 _ rfl; rw [add_field _ _ 2 (by omega)] at hv419_2; replace hv419_2 := Option.some.inj (hv419_2.symm.trans hx419_2); rw [hv419_2] at ge419_2; have HL419_2 := Aside0.mk (show Kd.R Kd.string 9 _ _ _ _ ((rd_T39 x5_1 (ji16)).f2) from ge419_2); clear hv419_2 ge419_2; have HX419_2 := Aside0.mk hx419_2; clear hcc419 hce419; have HR419_2 := Aside0.mk hi419_2; have HC419_2 := Aside0.mk hl419_2; clear hi419_2 hl419_2; replace p419 := eq_true p419; replace q419 := eq_true q419))
                     have n0_ := Aside0.mk (Kd.V_drew HO_1.out)
                     have n1_ := Aside0.mk (Kd.S_drew HO_5.out)
                     have n2_ := Aside0.mk (Kd.R_drew HL419_2.out)
                     have n3_ := Aside0.mk (Kd.C_drew HR419_2.out)
                     have n4_ := Aside0.mk (below_drew1 HB.out)
                     clear HO_1
                     clear HO_5
                     clear HL419_2
                     clear HR419_2
                     clear HB
                     have HO_1 := n0_
                     have HO_5 := n1_
                     have HL419_2 := n2_
                     have HR419_2 := n3_
                     have HB := n4_
                     clear n0_ n1_ n2_ n3_ n4_
                     have p420 : 0 ≤ ((ji16) : Int) := of_decide_eq_true (by assumption)
                     have q420 : (ji16) < (x5_1.length : Int) := of_decide_eq_true (by assumption)
                     obtain ⟨ad420, A420_2, c420_2, e420, hx420_0, hx420_1, hx420_2, hl420_2, hi420_2⟩ := at_T39 (Kd.S_reads' HO_5.out).2.2 (ji16) p420 q420
                     obtain rfl : ad419 = ad420 := (by injection e420)
                     obtain ⟨ce420, hce420, hMe420, hcc420⟩ := Kd.S_get HO_5.out z39 (ji16) p420 (by first | exact q420 | exact of_decide_eq_true (by assumption) | (have e_ := (Kd.S_reads' HO_5.out).1; omega))
                     obtain ⟨ve420_2, rfl, ge420_2⟩ := k39_openM hMe420
                     have hv420_2 := hcc420 2 _ rfl
                     rw [add_field _ _ 2 (by omega)] at hv420_2
                     replace hv420_2 := Option.some.inj (hv420_2.symm.trans hx420_2)
                     rw [hv420_2] at ge420_2
                     have HL420_2 := Aside0.mk (show Kd.R Kd.string 9 _ _ _ _ ((rd_T39 x5_1 (ji16)).f2) from ge420_2)
                     clear hv420_2 ge420_2
                     have HX420_2 := Aside0.mk hx420_2
                     clear hcc420 hce420
                     have HR420_2 := Aside0.mk hi420_2
                     have HC420_2 := Aside0.mk hl420_2
                     clear hi420_2 hl420_2
                     replace p420 := eq_true p420
                     replace q420 := eq_true q420
                     have p421 : 0 ≤ (0 : Int) := (by omega)
                     have q421 : 0 < (x1_1.length : Int) := of_decide_eq_true (by assumption)
                     obtain ⟨ad421, e421, hx421_0⟩ := Kd.at_string (Kd.V_reads' HO_1.out).2.2 0 p421 q421
                     cases e421
                     have qi421 : (0 < x1_1.length) = True := eq_true (by omega)
                     (try rw [show ((0 : Int)).toNat = 0 from rfl] at hx421_0)
                     (try rw [Addr.add_zero'] at hx421_0)
                     replace p421 := eq_true p421
                     replace q421 := eq_true q421
                     obtain ⟨go27, co27, eo27, gb27, gl27, cl27, HG27⟩ := Kd.S_form HO_5.out (by have h_ : ((ji16) : Int) < ((x5_1.length : Int) : Int) := of_decide_eq_true (by assumption); have h2_ : 0 ≤ ((ji16) : Int) := (of_decide_eq_true (by assumption)); omega)
                     (first | cases eo27 | (injection eo27 with ea_ en_ ec_; (first | subst ea_ | (injection ea_ with ea_; subst ea_)); subst ec_; clear en_))
                     have GB27 := Aside0.mk gb27
                     have GG27 := Aside0.mk HG27
                     clear gb27 gl27 HG27
                     (first | simp only [add_plain] at hx419_0 | skip)
                     (first | simp only [add_plain] at hx419_1 | skip)
                     (first | simp only [add_plain] at hx419_2 | skip)
                     (first | simp only [add_plain] at hx420_0 | skip)
                     (first | simp only [add_plain] at hx420_1 | skip)
                     (first | simp only [add_plain] at hx420_2 | skip)
                     obtain ⟨oki27, ce27, hcl27, hM27, hcc27, _, _, hH27⟩ := Kd.S_elem HO_5.out z39 ((ji16) : Int) (of_decide_eq_true (by assumption)) (by have h_ : ((ji16) : Int) < ((x5_1.length : Int) : Int) := of_decide_eq_true (by assumption); first | exact h_ | (have e_ := (Kd.S_reads' HO_5.out).1; omega) | simpa using h_)
                     obtain ⟨ve27_2, rfl, ge27_2⟩ := k39_openM hM27
                     have hv27 := hcc27 2 _ rfl
                     have hX27 := HX420_2.out
                     (try simp only [add_plain] at hX27)
                     (try simp only [Nat.add_zero] at hv27)
                     replace hv27 := Option.some.inj (hv27.symm.trans hX27)
                     subst hv27
                     clear hX27 hcc27 hcl27
                     have UU27 := Aside0.mk (show Kd.R Kd.string 9 _ w.heap.size oki27 (.slice A420_2 ((rd_T39 x5_1 (ji16)).f2).length c420_2) ((rd_T39 x5_1 (ji16)).f2) from ge27_2)
                     have HH27 := Aside0.mk hH27
                     have HN27 := Aside0.mk (Kd.S_reads' HO_5.out).1
                     clear hH27 ge27_2
                     refine start_ (n := 15) (S := fun w' => w'.cell? ((⟨go27, (((ji16)).toNat * 3), none⟩ : Addr)) = some (.int .i64 ((rd_T39 x5_1 (ji16)).f0)) ∧ w'.cell? ⟨((⟨go27, (((ji16)).toNat * 3), none⟩ : Addr)).block, ((⟨go27, (((ji16)).toNat * 3), none⟩ : Addr)).off + 1, none⟩ = some (.int .i64 ((rd_T39 x5_1 (ji16)).f1)) ∧ w'.cell? ⟨((⟨go27, (((ji16)).toNat * 3), none⟩ : Addr)).block, ((⟨go27, (((ji16)).toNat * 3), none⟩ : Addr)).off + 2, none⟩ = some (.slice A420_2 ((rd_T39 x5_1 (ji16)).f2).length c420_2) ∧ w'.cell? ad421 = some (.string (rdOf ByteArray.empty x1_1 0))) (ds := [11, 14]) #[f_, f_, f_, f_, f_, f_, f_, f_, f_, f_, f_, f_, f_, f_, f_] (by kernel_rfl) rfl rfl ⟨hx420_0, hx420_1, hx420_2, hx421_0⟩ (fun hHeld => ?_); refine with_tabW spec_l13Of.tab11 spec_l13Of.bits11 (fun HT_ HW_ => ?_)
                     generalize wr.drew = w26 at HO_1 HO_5 HL419_2 HR419_2 HB GG27 HH27 HL420_2 HR420_2 HX420_2 UU27 hx419_0 hx419_1 hx419_2 hx420_0 hx420_1 hx420_2 hx421_0 hHeld ⊢
                     refine pure_ (i := 0) (N := some 55) (v := ?_) (a' := ?_) #[t_, f_, f_, f_, f_, f_, f_, f_, f_, f_, f_, f_, f_, f_, f_] rfl rfl (any_of HT_.out (by kernel_rfl)) (fun _ _ _ h => h) (Or.inl ⟨by rfl, ?_⟩) ?_ ?_
                     rotate_left
                     · intro w'
                       go_simp
                       with_reducible rfl
                     rotate_left
                     · simp only [Act.put, List.setIfInBounds_toArray, List.set_cons_zero, List.set_cons_succ, i64_w, i32_w]
                       rfl
                     refine pure_ (i := 1) (N := some 56) (v := ?_) (a' := ?_) #[t_, t_, f_, f_, f_, f_, f_, f_, f_, f_, f_, f_, f_, f_, f_] rfl rfl (any_of HT_.out (by kernel_rfl)) (fun _ _ _ h => h) (Or.inl ⟨by rfl, ?_⟩) ?_ ?_
                     rotate_left
                     · intro w'
                       go_simp
                       with_reducible rfl
                     rotate_left
                     · simp only [Act.put, List.setIfInBounds_toArray, List.set_cons_zero, List.set_cons_succ, i64_w, i32_w]
                       rfl
                     refine pure_ (i := 2) (N := some 57) (v := ?_) (a' := ?_) #[t_, t_, t_, f_, f_, f_, f_, f_, f_, f_, f_, f_, f_, f_, f_] rfl rfl (any_of HT_.out (by kernel_rfl)) (fun _ _ _ h => h) (Or.inl ⟨by rfl, ?_⟩) ?_ ?_
                     rotate_left
                     · intro w'
                       go_simp
                       with_reducible rfl
                     rotate_left
                     · simp only [Act.put, List.setIfInBounds_toArray, List.set_cons_zero, List.set_cons_succ, i64_w, i32_w]
                       rfl
                     refine pure_ (i := 3) (N := some 58) (v := ?_) (a' := ?_) #[t_, t_, t_, t_, f_, f_, f_, f_, f_, f_, f_, f_, f_, f_, f_] rfl rfl (any_of HT_.out (by kernel_rfl)) (fun _ _ _ h => h) (Or.inl ⟨by rfl, ?_⟩) ?_ ?_
                     rotate_left
                     · intro w'
                       go_simp
                       with_reducible rfl
                     rotate_left
                     · simp only [Act.put, List.setIfInBounds_toArray, List.set_cons_zero, List.set_cons_succ, i64_w, i32_w]
                       rfl
                     refine pure_ (i := 4) (N := some 59) (v := ?_) (a' := ?_) #[t_, t_, t_, t_, t_, f_, f_, f_, f_, f_, f_, f_, f_, f_, f_] rfl rfl (any_of HT_.out (by kernel_rfl)) (fun _ _ _ h => h) (Or.inl ⟨by rfl, ?_⟩) ?_ ?_
                     rotate_left
                     · intro w'
                       go_simp
                       with_reducible rfl
                     rotate_left
                     · simp only [Act.put, List.setIfInBounds_toArray, List.set_cons_zero, List.set_cons_succ, i64_w, i32_w]
                       rfl
                     refine pure_ (i := 5) (N := some 60) (v := ?_) (a' := ?_) #[t_, t_, t_, t_, t_, t_, f_, f_, f_, f_, f_, f_, f_, f_, f_] rfl rfl (any_of HT_.out (by kernel_rfl)) (fun _ _ _ h => h) (Or.inl ⟨by rfl, ?_⟩) ?_ ?_
                     rotate_left
                     · intro w'
                       go_simp
                       with_reducible rfl
                     rotate_left
                     · simp only [Act.put, List.setIfInBounds_toArray, List.set_cons_zero, List.set_cons_succ, i64_w, i32_w]
                       rfl
                     refine pure_ (i := 7) (N := some 62) (v := ?_) (a' := ?_) #[t_, t_, t_, t_, t_, t_, f_, t_, f_, f_, f_, f_, f_, f_, f_] rfl rfl (any_of HT_.out (by kernel_rfl)) (fun _ _ _ h => h) (Or.inl ⟨by rfl, ?_⟩) ?_ ?_
                     rotate_left
                     · intro w'
                       go_simp
                       with_reducible rfl
                     rotate_left
                     · simp only [Act.put, List.setIfInBounds_toArray, List.set_cons_zero, List.set_cons_succ, i64_w, i32_w]
                       rfl
                     refine pure_ (i := 8) (N := some 63) (v := ?_) (a' := ?_) #[t_, t_, t_, t_, t_, t_, f_, t_, t_, f_, f_, f_, f_, f_, f_] rfl rfl (any_of HT_.out (by kernel_rfl)) (fun _ _ _ h => h) (Or.inl ⟨by rfl, ?_⟩) ?_ ?_
                     rotate_left
                     · intro w'
                       go_simp
                       with_reducible rfl
                     rotate_left
                     · simp only [Act.put, List.setIfInBounds_toArray, List.set_cons_zero, List.set_cons_succ, i64_w, i32_w]
                       rfl
                     refine take_ (i := 6) (N := some 61) (v := ?_) (a' := ?_) #[t_, t_, t_, t_, t_, t_, t_, t_, t_, f_, f_, f_, f_, f_, f_] rfl rfl (take_ofW HT_.out HW_.out (by kernel_rfl)) (fun _ _ _ h => h) (Or.inl ⟨by rfl, ?_⟩) hHeld ?_ ?_
                     rotate_left
                     · rintro w' ⟨s0, s1, s2, s3⟩
                       go_simp
                       with_reducible rfl
                     rotate_left
                     · simp only [Act.put, List.setIfInBounds_toArray, List.set_cons_zero, List.set_cons_succ, i64_w, i32_w]
                       rfl
                     refine take_ (i := 9) (N := some 64) (v := ?_) (a' := ?_) #[t_, t_, t_, t_, t_, t_, t_, t_, t_, t_, f_, f_, f_, f_, f_] rfl rfl (take_ofW HT_.out HW_.out (by kernel_rfl)) (fun _ _ _ h => h) (Or.inl ⟨by rfl, ?_⟩) hHeld ?_ ?_
                     rotate_left
                     · rintro w' ⟨s0, s1, s2, s3⟩
                       go_simp
                       with_reducible rfl
                     rotate_left
                     · simp only [Act.put, List.setIfInBounds_toArray, List.set_cons_zero, List.set_cons_succ, i64_w, i32_w]
                       rfl
                     refine one_ (i := 10) (N := some 65) #[t_, t_, t_, t_, t_, t_, t_, t_, t_, t_, t_, f_, f_, f_, f_] rfl rfl (one_of HT_.out (by kernel_rfl)) (by decide) (fun K hK => ?_)
                     refine value_ (w1 := ?_) (v := ?_) (by rfl) rfl ?_ ?_
                     rotate_left 2
                     · go_simp
                       constructor
                       · rfl
                       · rfl
                     refine hK.out _ _ ⟨(World.cell?_alloc_lt _ _ _ (World.block_lt_of_cell? _ _ (hHeld.1))).trans (hHeld.1), (World.cell?_alloc_lt _ _ _ (World.block_lt_of_cell? _ _ (hHeld.2.1))).trans (hHeld.2.1), (World.cell?_alloc_lt _ _ _ (World.block_lt_of_cell? _ _ (hHeld.2.2.1))).trans (hHeld.2.2.1), (World.cell?_alloc_lt _ _ _ (World.block_lt_of_cell? _ _ (hHeld.2.2.2))).trans (hHeld.2.2.2)⟩ (fun hHeld => ?_)
                     clear hK K
                     refine norm_ (a' := ?_) ?_ ?_
                     rotate_left
                     · show Act.put _ (some 65) _ = _
                       simp only [Act.put, List.setIfInBounds_toArray, List.set_cons_zero, List.set_cons_succ, i64_w, i32_w]
                       rfl
                     refine last_ (i := 11) (N := some 66) #[t_, t_, t_, t_, t_, t_, t_, t_, t_, t_, t_, t_, f_, f_, f_] rfl rfl (one_of HT_.out (by kernel_rfl)) (by decide) (fun K hK => ?_)
                     refine Kd.R_append_step Kd.string (w0 := w) w.heap.size (by rfl) (.tmp 61) (.tmp 65) 30 9 (.string ⟨#[]⟩) 16 rfl Try.underlying30 info9 rfl (by decide) (by omega) (.slice A420_2 ((rd_T39 x5_1 (ji16)).f2).length c420_2) ((rd_T39 x5_1 (ji16)).f2) (rdOf ByteArray.empty x1_1 0) [.string (rdOf ByteArray.empty x1_1 0)] (fun k_ => oki27 k_ ∨ ((fun k_ => (w.heap.size ≤ k_))) k_ ∧ w26.heap.size ≤ k_) (fun _ => False) rfl rfl ?aP (fun _ hk => hk.elim) ?aF ?aO ?aB ?aS ?aL ?_
                     (case aP => exact rfl)
                     (case aB => exact (by repeat (first | (with_reducible first | exact HB.out | apply below_alloc | apply pw_below_drewN | apply below_drew1) | exact HB.out)))
                     (case aF => exact (fun k_ hk => .inr ⟨Nat.le_trans (below_size HB.out) hk, hk⟩))
                     (case aO => exact (by (with_reducible repeat (first | apply Kd.R_alloc | apply Kd.R_drewN | apply Kd.R_drew)); exact Kd.R_mono UU27.out (fun _ hk => .inl hk)))
                     (case aS => exact (below_size (by repeat (first | (with_reducible first | exact HB.out | apply below_alloc | apply pw_below_drewN | apply below_drew1) | exact HB.out))))
                     (case aL => have := LMc21.out; omega)
                     intro v423 w28 ho hb hg hat
                     rw [← Ny422.out] at ho
                     have n0_ := Aside0.mk (Kd.V_grown (by (with_reducible repeat (first | apply Kd.V_alloc | apply Kd.V_drewN | apply Kd.V_drew)); exact HO_1.out) hg (fun k_ hk_ e_ => (by have h1_ := Kd.R_base UU27.out k_ e_.symm; have h2_ := hk_.1.2; omega)))
                     have n1_ := Aside0.mk (hb)
                     have n2_ := Aside0.mk (Kd.H_grown (Kd.H_widen (by repeat (first | exact HH27.out | refine Kd.H_alloc ?_ _ | refine Kd.H_drewN ?_ _ | refine Kd.H_drew ?_))) hg (fun k_ e_ => .inl (UU27.out.1 k_ e_)))
                     have n3_ := Aside0.mk (ho)
                     clear HO_1
                     clear HB
                     clear HH27
                     clear HO_5
                     clear UU27
                     clear HL419_2
                     clear HL420_2
                     have HO_1 := n0_
                     have HB := n1_
                     have HH27 := n2_
                     have HO424 := n3_
                     clear n0_ n1_ n2_ n3_
                     clear ho hb hg hat
                     have p22 : 0 ≤ ((ji16) : Int) := of_decide_eq_true (by assumption)
                     have q22 : ((ji16) : Int) < ((x5_1.length : Int) : Int) := of_decide_eq_true (by assumption)
                     replace p22 := eq_true p22
                     replace q22 := eq_true q22
                     obtain ⟨Ao31, co31, eo31⟩ := Kd.R_slice HO424.out
                     (first | subst eo31 | (injection eo31 with f1_ f2_ f3_; have f4_ := f1_.symm; have f5_ := f3_.symm; clear f1_ f2_ f3_; subst f4_; subst f5_))
                     obtain ⟨_, _, hraw29, _, _, hcc29, _⟩ := Kd.H_raw HH27.out (of_decide_eq_true (by assumption)) (by have h_ : ((ji16) : Int) < ((x5_1.length : Int) : Int) := of_decide_eq_true (by assumption); first | exact h_ | (have e_ := (HN27.out); omega) | simpa using h_)
                     obtain ⟨_, hfr29⟩ := Kd.H_at HH27.out (of_decide_eq_true (by assumption)) (by have h_ : ((ji16) : Int) < ((x5_1.length : Int) : Int) := of_decide_eq_true (by assumption); first | exact h_ | (have e_ := (HN27.out); omega) | simpa using h_)
                     have hx29_0 := hcc29 2 _ rfl
                     have hf29_0 := hfr29 2
                     (try rw [show (k39).sz = 3 from rfl] at hx29_0)
                     (try rw [show (k39).sz = 3 from rfl] at hf29_0)
                     have HP29 := Kd.S_seg0 HH27.out (of_decide_eq_true (by assumption)) (by have h_ : ((ji16) : Int) < ((x5_1.length : Int) : Int) := of_decide_eq_true (by assumption); first | exact h_ | (have e_ := (HN27.out); omega) | simpa using h_) (seg := [.slice Ao31 y422.length co31]) (j := 2) (show 3 ≤ 3 from by decide) (x' := (⟨(rd_T39 x5_1 (ji16)).f0, (rd_T39 x5_1 (ji16)).f1, y422⟩ : S39)) (k39_mkM _ _ _ (⟨(rd_T39 x5_1 (ji16)).f0, (rd_T39 x5_1 (ji16)).f1, y422⟩ : S39) HO424.out) (fun _ hk => hk)
                     clear hcc29 hfr29
                     have HS29 := HP29.1
                     rw [← Ny425.out] at HS29
                     have HQ29 := Aside0.mk HS29
                     obtain ⟨_, hgg29⟩ := Kd.R_typed hraw29 go27 rfl
                     have GG29_ := Aside0.mk hgg29
                     clear HP29 HS29 hgg29
                     refine hK.out _ _ ?_
                     clear hK K
                     refine norm_ (a' := ?_) ?_ ?_
                     rotate_left
                     · show Act.put _ (some 66) _ = _
                       simp only [Act.put, List.setIfInBounds_toArray, List.set_cons_zero, List.set_cons_succ, i64_w, i32_w]
                       rfl
                     refine pure_ (i := 12) (N := some 67) (v := ?_) (a' := ?_) #[t_, t_, t_, t_, t_, t_, t_, t_, t_, t_, t_, t_, t_, f_, f_] rfl rfl (any_of HT_.out (by kernel_rfl)) (fun _ _ _ h => h) (Or.inl ⟨by rfl, ?_⟩) ?_ ?_
                     rotate_left
                     · intro w'
                       go_simp
                       with_reducible rfl
                     rotate_left
                     · simp only [Act.put, List.setIfInBounds_toArray, List.set_cons_zero, List.set_cons_succ, i64_w, i32_w]
                       rfl
                     refine pure_ (i := 13) (N := some 68) (v := ?_) (a' := ?_) #[t_, t_, t_, t_, t_, t_, t_, t_, t_, t_, t_, t_, t_, t_, f_] rfl rfl (any_of HT_.out (by kernel_rfl)) (fun _ _ _ h => h) (Or.inl ⟨by rfl, ?_⟩) ?_ ?_
                     rotate_left
                     · intro w'
                       go_simp
                       with_reducible rfl
                     rotate_left
                     · simp only [Act.put, List.setIfInBounds_toArray, List.set_cons_zero, List.set_cons_succ, i64_w, i32_w]
                       rfl
                     refine last_ (i := 14) (N := none) #[t_, t_, t_, t_, t_, t_, t_, t_, t_, t_, t_, t_, t_, t_, t_] rfl rfl (one_of HT_.out (by kernel_rfl)) (by decide) (fun K hK => ?_)
                     refine skip_ (w1 := ?_) (by rfl) rfl ?_ ?_
                     rotate_left
                     · go_simp
                       rfl
                     refine hK.out _ _ ?_
                     clear hK K
                     refine done_ (done_of HT_.out (by kernel_rfl)) ?_
                     have n0_ : Aside0 (Kd.V Kd.string 9 (w28.setCell ⟨go27, ((ji16) : Int).toNat * 3 + 2, none⟩ (.slice Ao31 y422.length co31)) w.heap.size (fun k_ => (P1_ k_ ∧ k_ < w.heap.size) ∧ some k_ ≠ (.slice (some ⟨go27, 0, none⟩) x5_1.length co25 : Value).ownBlock) (.slice (some ad421) x1_1.length co24) x1_1) := ⟨by (with_reducible repeat (first | apply Kd.V_alloc | apply Kd.V_drewN | apply Kd.V_drew)); exact Kd.V_mono (Kd.V_far (p := ⟨go27, ((ji16) : Int).toNat * 3 + 2, none⟩) (Kd.V_mono HO_1.out (fun k_ hk => (⟨hk, fun e_ => hk.2 (by rw [e_]; rfl)⟩ : _ ∧ k_ ≠ go27))) (fun _ hk => hk.2) (.slice Ao31 y422.length co31)) (fun _ hk => ⟨hk.1.1, hk.1.2⟩)⟩
                     have n1_ : Aside0 (Kd.S k39 39 (w28.setCell ⟨go27, ((ji16) : Int).toNat * 3 + 2, none⟩ (.slice Ao31 y422.length co31)) w.heap.size (fun k_ => (w.heap.size ≤ k_)) (.slice (some ⟨go27, 0, none⟩) x5_1.length co25) y425) := ⟨by (with_reducible repeat (first | apply Kd.S_alloc | apply Kd.S_drewN | apply Kd.S_drew)); exact HQ29.out⟩
                     have n2_ : Aside0 (Below w.heap.size w (w28.setCell ⟨go27, ((ji16) : Int).toNat * 3 + 2, none⟩ (.slice Ao31 y422.length co31))) := ⟨by repeat (first | (with_reducible first | exact HB.out | apply below_alloc | apply pw_below_drewN | apply below_drew1 | refine below_set ?_ GB27.out) | exact HB.out)⟩
                     (try clear HO_1)
                     (try clear HO_5)
                     (try clear HB)
                     generalize (w28.setCell ⟨go27, ((ji16) : Int).toNat * 3 + 2, none⟩ (.slice Ao31 y422.length co31)) = w32 at n0_ n1_ n2_ ⊢
                     have HO_1 := n0_
                     have HO_5 := n1_
                     have HB := n2_
                     clear n0_ n1_ n2_
                     have q33 : (1 : Int) ≤ ((x1_1.length : Int) : Int) := of_decide_eq_true (by assumption)
                     obtain ⟨i033, hi033, _, hsz33, _⟩ := info_parts info9
                     have hroom33 : x1_1.length ≤ co24 := (Kd.V_reads' HO_1.out).2.1
                     have hC33 : Kd.F Kd.string _ _ (some ad421) x1_1.length x1_1 := (Kd.V_at (base := w.heap.size) HO_1.out).2.2
                     have hcut33 := cut_from (P := Try.prog) 30 9 .i64 Try.underlying30 hi033 1 hsz33 (some ad421) x1_1.length co24 1 (by omega) q33
                     have hr33 := Kd.F_cut (m := (1 : Int).toNat) (c := co24) hC33 (by omega) hroom33
                     obtain ⟨A33, hA33⟩ : ∃ A1, A1 = (if co24 = (1 : Int).toNat then (some ad421) else ((some ad421) : Option Addr).map (·.add ((1 : Int).toNat * 1))) := ⟨_, rfl⟩
                     obtain ⟨c33, hc33⟩ : ∃ c1, c1 = co24 - (1 : Int).toNat := ⟨_, rfl⟩
                     have hy33 : y426.length = x1_1.length - (1 : Int).toNat := (by rw [Ny426.out, List.length_drop] <;> omega)
                     rw [show (x1_1).drop (1 : Int).toNat = y426 from Ny426.out.symm] at hr33
                     replace hr33 : Kd.F Kd.string _ _ A33 y426.length y426 := (by rw [hA33]; exact hr33)
                     rw [← hy33, ← hA33, ← hc33] at hcut33
                     have HO430 := Aside0.mk (show Kd.V Kd.string 9 _ w.heap.size _ (.slice A33 y426.length c33) y426 from Kd.V_mk (by rw [hy33, hc33]; exact Nat.sub_le_sub_right hroom33 _) hr33)
                     have HC430 := Aside0.mk (show y426.length ≤ c33 from by rw [hy33, hc33]; exact Nat.sub_le_sub_right hroom33 _)
                     clear hr33 hC33 hroom33 hi033 hsz33 hc33
                     have KY33 := Aside0.mk hy33
                     have KA33 := Aside0.mk hA33
                     clear hy33 hA33
                     replace q33 := eq_true q33
                     try go_wp2
                     go_roundg k1
                     case measure => have := HK1.out; omega
                     case rel => exact ⟨(y426), (y425), H', ⟨by have := HK1.out; omega⟩, ⟨by (with_reducible repeat (first | apply Kd.V_alloc | apply Kd.V_drewN | apply Kd.V_drew)); exact HO430.out⟩, ⟨by (with_reducible repeat (first | apply Kd.S_alloc | apply Kd.S_drewN | apply Kd.S_drew)); exact HO_5.out⟩, ⟨by repeat (first | (with_reducible first | exact HB.out | apply below_alloc | apply pw_below_drewN | apply below_drew1) | exact HB.out)⟩⟩
                   · rw [if_neg c23] at H
                     exact absurd H (by simp)
                 · rw [if_neg c21] at H
                   exact absurd H (by simp)
               · rw [if_neg c20] at H
                 exact absurd H (by simp)
             · rw [if_neg c19] at H
               have c19b0 : (((rd_T39 x5_1 (ji16)).f1) == 0) = false := beq_eq_false_iff_ne.mpr c19
               have c19b1 : (((rd_T39 x5_1 (ji16)).f1) != 0) = true := bne_iff_ne.mpr c19
               by_cases c34 : 0 < (x1_1.length : Int)
               · rw [if_pos c34] at H
                 have c34b0 : decide (0 < (x1_1.length : Int)) = true := decide_eq_true c34
                 have c34b1 : decide (0 < x1_1.length) = true := decide_eq_true (by omega)
                 clear c34
                 obtain ⟨y432, hy432⟩ : ∃ y_ : List ByteArray, y_ = (([rdOf ByteArray.empty x1_1 0] : List ByteArray)) := ⟨_, rfl⟩
                 replace H : (if x5_1.length < 3518437208883 then (if 1 ≤ (x1_1.length : Int) then (spec_l13Of.l0 k1 l0 (x1_1.drop 1) (x5_1 ++ [(⟨0, 0, y432⟩ : S39)])) else (none)) else (none)) = some r := by first | (rw [hy432]; with_reducible exact H) | (have H2_ := (Option.bind_some _ _).symm.trans H; rw [hy432]; with_reducible exact H2_) | (have H2_ := (Option.bind_some _ _).symm.trans H; with_reducible exact H2_) | with_reducible exact H | (rw [hy432]; exact H) | exact H
                 have Ny432 := Aside0.mk hy432
                 clear hy432
                 by_cases c35 : x5_1.length < 3518437208883
                 · rw [if_pos c35] at H
                   have LMc35 := Aside0.mk c35
                   clear c35
                   obtain ⟨y435, hy435⟩ : ∃ y_ : List (S39), y_ = (x5_1 ++ [(⟨0, 0, y432⟩ : S39)]) := ⟨_, rfl⟩
                   replace H : (if 1 ≤ (x1_1.length : Int) then (spec_l13Of.l0 k1 l0 (x1_1.drop 1) y435) else (none)) = some r := by first | (rw [hy435]; with_reducible exact H) | (have H2_ := (Option.bind_some _ _).symm.trans H; rw [hy435]; with_reducible exact H2_) | (have H2_ := (Option.bind_some _ _).symm.trans H; with_reducible exact H2_) | with_reducible exact H | (rw [hy435]; exact H) | exact H
                   have Ny435 := Aside0.mk hy435
                   clear hy435
                   by_cases c36 : 1 ≤ (x1_1.length : Int)
                   · rw [if_pos c36] at H
                     have c36b0 := eq_true c36
                     have c36b1 : decide (1 ≤ (x1_1.length : Int)) = true := decide_eq_true c36
                     clear c36
                     obtain ⟨y438, hy438⟩ : ∃ y_ : List ByteArray, y_ = (x1_1.drop 1) := ⟨_, rfl⟩
                     replace H : (spec_l13Of.l0 k1 l0 y438 y435) = some r := by first | (rw [hy438]; with_reducible exact H) | (have H2_ := (Option.bind_some _ _).symm.trans H; rw [hy438]; with_reducible exact H2_) | (have H2_ := (Option.bind_some _ _).symm.trans H; with_reducible exact H2_) | with_reducible exact H | (rw [hy438]; exact H) | exact H
                     have Ny438 := Aside0.mk hy438
                     clear hy438
                     have H' := Aside0.mk H
                     clear H
                     obtain ⟨Ao37, co37, eo37⟩ := Kd.V_slice HO_1.out
                     subst eo37
                     go_wp2_with (first | ((with_reducible refine gate_callee (f := 104) rfl ?_); refine goesL_ (some 16) rfl rfl Try.func104 (by kernel_rfl) rfl #[.slice A0 l0.length c0, .slice Ao37 x1_1.length co37] rfl (by (try simp only [List.map_toArray, List.map_cons, List.map_nil]); first | done | rfl | (simp only [List.length_drop, List.length_take]; rfl)) ?_; (with_reducible refine (spec_l13Run.calls k1 _ _ l0 _ _ x1_1 t409 t410 _ ?side1 ?side2 ?side3 ?side4 A6.out).mono ?_); (case side1 => repeat (first | exact (Kd.C_below HR0.out HB.out) | (with_reducible refine Kd.C_alloc ?_ _) | (with_reducible refine Kd.C_drewN ?_ _) | (with_reducible refine Kd.C_drew ?_))); (case side2 => exact HC0.out); (case side3 => repeat (first | exact (Kd.V_reads' HO_1.out).2.2 | (with_reducible refine Kd.C_alloc ?_ _) | (with_reducible refine Kd.C_drewN ?_ _) | (with_reducible refine Kd.C_drew ?_))); (case side4 => exact (Kd.V_reads' HO_1.out).2.1); rintro e w' ⟨rfl, ⟨nd, rfl⟩⟩; refine ⟨_, rfl, ?_⟩; obtain ⟨Ao38, co38, eo38⟩ := Kd.S_slice HO_5.out; subst eo38; have p419 : 0 ≤ ((ji16) : Int) := of_decide_eq_true (by assumption); have q419 : (ji16) < (x5_1.length : Int) := of_decide_eq_true (by assumption); obtain ⟨ad419, A419_2, c419_2, e419, hx419_0, hx419_1, hx419_2, hl419_2, hi419_2⟩ := at_T39 (Kd.S_reads' HO_5.out).2.2 (ji16) p419 q419; cases e419; obtain ⟨ce419, hce419, hMe419, hcc419⟩ := Kd.S_get HO_5.out z39 (ji16) p419 (by first | exact q419 | exact of_decide_eq_true (by assumption) | (have e_ := (Kd.S_reads' HO_5.out).1; omega)); obtain ⟨ve419_2, rfl, ge419_2⟩ := k39_openM hMe419; have hv419_2 := hcc419 2 _ rfl; rw [add_field _ _ 2 (by omega)] at hv419_2; replace hv419_2 := Option.some.inj (hv419_2.symm.trans hx419_2); rw [hv419_2] at ge419_2; have HL419_2 := Aside0.mk (show Kd.R Kd.string 9 _ _ _ _ ((rd_T39 x5_1 (ji16)).f2) from ge419_2); clear hv419_2 ge419_2; have HX419_2 := Aside0.mk hx419_2; clear hcc419 hce419; have HR419_2 := Aside0.mk hi419_2; have HC419_2 := Aside0.mk hl419_2; clear hi419_2 hl419_2; replace p419 := eq_true p419; replace q419 := eq_true q419; have p431 : 0 ≤ (0 : Int) := (by omega); have q431 : 0 < (x1_1.length : Int) := of_decide_eq_true (by assumption); obtain ⟨ad431, e431, hx431_0⟩ := Kd.at_string (Kd.V_reads' HO_1.out).2.2 0 p431 q431; cases e431; have qi431 : (0 < x1_1.length) = True := eq_true (by omega); (try rw [show ((0 : Int)).toNat = 0 from rfl] at hx431_0); (try rw [Addr.add_zero'] at hx431_0); replace p431 := eq_true p431; replace q431 := eq_true q431) | ((with_reducible refine gate_dst (N := 26) rfl ?_); refine Kd.R_lit Kd.string _ 9 ?hg (N := 26) ?hd (xs := ([rdOf ByteArray.empty x1_1 0] : List ByteArray)) (inner := [.string (rdOf ByteArray.empty x1_1 0)]) (ok := fun _ => True) (okp := fun _ => True) ?hr ?hp (fun _ hk => hk) trivial (Below.refl _ _) (Nat.le_refl _) (by simp) ?_; (case hd => rfl); (case hg => rfl); (case hr => first | (go_simp; done) | (go_simp; rfl)); (case hp => exact (Reps.one (show Kd.M Kd.string _ _ _ (rdOf ByteArray.empty x1_1 0) [.string (rdOf ByteArray.empty x1_1 0)] from rfl) (Reps.none _ _))); intro v433 w39 ho40 hb hg_ hnew_; clear hg_ hnew_; (first | rw [← Ny432.out] at ho40 | (simp only [Int.reduceToNat] at ho40; rw [← Ny432.out] at ho40)); have n0_ := Aside0.mk (Kd.V_elder' (by (with_reducible repeat (first | apply Kd.V_alloc | apply Kd.V_drewN | apply Kd.V_drew)); exact HO_1.out) (Kd.R_base ho40) hb); have n1_ := Aside0.mk (Kd.S_elder' (by (with_reducible repeat (first | apply Kd.S_alloc | apply Kd.S_drewN | apply Kd.S_drew)); exact HO_5.out) (Kd.R_base ho40) hb); have n2_ := Aside0.mk (Kd.R_elder' (by (with_reducible repeat (first | apply Kd.R_alloc | apply Kd.R_drewN | apply Kd.R_drew)); exact HL419_2.out) (Kd.R_base ho40) hb); have n3_ := Aside0.mk (Kd.R_lower (Kd.R_new' (Kd.R_newM (M := fun k_ => (w.heap.size ≤ k_)) ho40 (below_size (by repeat (first | (with_reducible first | exact HB.out | apply below_alloc | apply pw_below_drewN | apply below_drew1) | exact HB.out))) (fun k_ h_ => h_)) (Kd.R_lt (by (with_reducible repeat (first | apply Kd.R_alloc | apply Kd.R_drewN | apply Kd.R_drew)); exact HL419_2.out))) (below_size (by repeat (first | (with_reducible first | exact HB.out | apply below_alloc | apply pw_below_drewN | apply below_drew1) | exact HB.out)))); have n4_ := Aside0.mk (Kd.C_below (by repeat (first | (with_reducible exact HR419_2.out) | (with_reducible refine Kd.C_alloc ?_ _) | (with_reducible refine Kd.C_drewN ?_ _) | (with_reducible refine Kd.C_drew ?_) | exact HR419_2.out)) hb); have n5_ := Aside0.mk (pw_cell_below hb HX419_2.out); have n6_ := Aside0.mk (below_step (by repeat (first | (with_reducible first | exact HB.out | apply below_alloc | apply pw_below_drewN | apply below_drew1) | exact HB.out)) hb); clear HO_1; clear HO_5; clear HL419_2; clear HR419_2; clear HX419_2; clear HB; have HO_1 := n0_; have HO_5 := n1_; have HL419_2 := n2_; have HO434 := n3_; have HR419_2 := n4_; have HX419_2 := n5_; have HB := n6_; clear n0_ n1_ n2_ n3_ n4_ n5_ n6_; clear hb ho40; obtain ⟨Ao41, co41, eo41⟩ := Kd.R_slice HO434.out; subst eo41) | ((with_reducible refine gate_builtin (b := .append) (xs := #[.tmp 22, .tmp 28]) rfl ?_); at_builtin; refine Kd.S_append k39 (w0 := w) w.heap.size rfl (.tmp 22) (.tmp 28) 25 39 (.agg #[(.int .i64 0), (.int .i64 0), (.slice none 0 0)]) 40 rfl Try.underlying25 info39 rfl (by decide) (by omega) (.slice (some ad419) x5_1.length co38) x5_1 (⟨0, 0, y432⟩ : S39) [.int .i64 0, .int .i64 0, .slice Ao41 y432.length co41] (fun k_ => (w.heap.size ≤ k_)) (fun k_ => some k_ = (.slice Ao41 y432.length co41 : Value).ownBlock) rfl rfl ?aP (fun k_ hk_ => ((Kd.R_mono (ok' := fun k_ => ((fun k_ => (w.heap.size ≤ k_))) k_ ∧ some k_ ≠ (.slice (some ad419) x5_1.length co38 : Value).ownBlock) (Kd.R_apart' (HO434.out) (Kd.S_typed HO_5.out) (by decide)) (fun k_ hk => ⟨hk.1.1.1, hk.2⟩))).1 k_ hk_.symm) ?aF ?aO ?aB ?aS ?aL ?_; (case aP => exact k39_mkM _ _ _ (⟨0, 0, y432⟩ : S39) (Kd.R_mono (Kd.R_tight rfl (Kd.R_mono (ok' := fun k_ => ((fun k_ => (w.heap.size ≤ k_))) k_ ∧ some k_ ≠ (.slice (some ad419) x5_1.length co38 : Value).ownBlock) (Kd.R_apart' (HO434.out) (Kd.S_typed HO_5.out) (by decide)) (fun k_ hk => ⟨hk.1.1.1, hk.2⟩))) (fun _ h_ => h_))); (case aB => exact (by repeat (first | (with_reducible first | exact HB.out | apply below_alloc | apply pw_below_drewN | apply below_drew1) | exact HB.out))); (case aF => exact (fun k_ hk => (Nat.le_trans (below_size (by repeat (first | (with_reducible first | exact HB.out | apply below_alloc | apply pw_below_drewN | apply below_drew1) | exact HB.out))) hk))); (case aO => exact (by (with_reducible repeat (first | apply Kd.S_alloc | apply Kd.S_drewN | apply Kd.S_drew)); exact Kd.S_mono HO_5.out (fun k_ hk => ⟨hk.1, fun e_ => hk.2 e_⟩))); (case aS => exact (below_size (by repeat (first | (with_reducible first | exact HB.out | apply below_alloc | apply pw_below_drewN | apply below_drew1) | exact HB.out)))); (case aL => have := LMc35.out; omega); intro v436 w42 ho hb hg hat; rw [← Ny435.out] at ho; have n0_ := Aside0.mk (Kd.V_afterv (ok := (fun k_ => (P1_ k_ ∧ k_ < w.heap.size) ∧ some k_ ≠ (.slice Ao41 y432.length co41 : Value).ownBlock)) (by (with_reducible repeat (first | apply Kd.V_alloc | apply Kd.V_drewN | apply Kd.V_drew)); exact Kd.V_mono HO_1.out (fun _ hk => ⟨⟨hk.1.1, hk.2⟩, hk.1.2⟩)) hg hat); have n1_ := Aside0.mk (Kd.R_after (ok := (fun k_ => (w.heap.size ≤ k_) ∧ some k_ ≠ (.slice Ao41 y432.length co41 : Value).ownBlock)) (by (with_reducible repeat (first | apply Kd.R_alloc | apply Kd.R_drewN | apply Kd.R_drew)); exact Kd.R_mono HL419_2.out (fun _ hk => ⟨⟨hk.1.1, hk.2⟩, hk.1.2⟩)) hg hat); have n2_ := Aside0.mk (hb); have n3_ := Aside0.mk (ho); clear HO_1; clear HL419_2; clear HB; clear HO_5; clear HO434; have HO_1 := n0_; have HL419_2 := n1_; have HB := n2_; have HO437 := n3_; clear n0_ n1_ n2_ n3_; clear ho hb hg hat; have q43 : (1 : Int) ≤ ((x1_1.length : Int) : Int) := of_decide_eq_true (by assumption); obtain ⟨i043, hi043, _, hsz43, _⟩ := info_parts info9; have hroom43 : x1_1.length ≤ co37 := (Kd.V_reads' HO_1.out).2.1; have hC43 : Kd.F Kd.string _ _ (some ad431) x1_1.length x1_1 := (Kd.V_at (base := w.heap.size) HO_1.out).2.2; have hcut43 := cut_from (P := Try.prog) 30 9 .i64 Try.underlying30 hi043 1 hsz43 (some ad431) x1_1.length co37 1 (by omega) q43; have hr43 := Kd.F_cut (m := (1 : Int).toNat) (c := co37) hC43 (by omega) hroom43; obtain ⟨A43, hA43⟩ : ∃ A1, A1 = (if co37 = (1 : Int).toNat then (some ad431) else ((some ad431) : Option Addr).map (·.add ((1 : Int).toNat * 1))) := ⟨_, rfl⟩; obtain ⟨c43, hc43⟩ : ∃ c1, c1 = co37 - (1 : Int).toNat := ⟨_, rfl⟩; have hy43 : y438.length = x1_1.length - (1 : Int).toNat := (by rw [Ny438.out, List.length_drop] <;> omega); rw [show (x1_1).drop (1 : Int).toNat = y438 from Ny438.out.symm] at hr43; replace hr43 : Kd.F Kd.string _ _ A43 y438.length y438 := (by rw [hA43]; exact hr43); rw [← hy43, ← hA43, ← hc43] at hcut43; have HO442 := Aside0.mk (show Kd.V Kd.string 9 _ w.heap.size _ (.slice A43 y438.length c43) y438 from Kd.V_mk (by rw [hy43, hc43]; exact Nat.sub_le_sub_right hroom43 _) hr43); have HC442 := Aside0.mk (show y438.length ≤ c43 from by rw [hy43, hc43]; exact Nat.sub_le_sub_right hroom43 _); clear hr43 hC43 hroom43 hi043 hsz43 hc43; have KY43 := Aside0.mk hy43; have KA43 := Aside0.mk hA43; clear hy43 hA43; replace q43 := eq_true q43))
                     go_roundg k1
                     case measure => have := HK1.out; omega
                     case rel => exact ⟨(y438), (y435), H', ⟨by have := HK1.out; omega⟩, ⟨by (with_reducible repeat (first | apply Kd.V_alloc | apply Kd.V_drewN | apply Kd.V_drew)); exact Kd.V_mono HO442.out (fun _ hk => ⟨hk.1.1, hk.2⟩)⟩, ⟨by (with_reducible repeat (first | apply Kd.S_alloc | apply Kd.S_drewN | apply Kd.S_drew)); exact HO437.out⟩, ⟨by repeat (first | (with_reducible first | exact HB.out | apply below_alloc | apply pw_below_drewN | apply below_drew1) | exact HB.out)⟩⟩
                   · rw [if_neg c36] at H
                     exact absurd H (by simp)
                 · rw [if_neg c35] at H
                   exact absurd H (by simp)
               · rw [if_neg c34] at H
                 exact absurd H (by simp)
           · rw [if_neg c18] at H
             exact absurd H (by simp)
         · rw [if_neg c17] at H
           exact absurd H (by simp)
       · rw [if_neg c15] at H
         have c15b0 : decide (0 ≤ (wrap64 ((x5_1.length : Int) - 1))) = false := decide_eq_false c15
         clear c15
         by_cases c44 : 0 < (x1_1.length : Int)
         · rw [if_pos c44] at H
           have c44b0 : decide (0 < (x1_1.length : Int)) = true := decide_eq_true c44
           have c44b1 : decide (0 < x1_1.length) = true := decide_eq_true (by omega)
           clear c44
           obtain ⟨y444, hy444⟩ : ∃ y_ : List ByteArray, y_ = (([rdOf ByteArray.empty x1_1 0] : List ByteArray)) := ⟨_, rfl⟩
           replace H : (if x5_1.length < 3518437208883 then (if 1 ≤ (x1_1.length : Int) then (spec_l13Of.l0 k1 l0 (x1_1.drop 1) (x5_1 ++ [(⟨0, 0, y444⟩ : S39)])) else (none)) else (none)) = some r := by first | (rw [hy444]; with_reducible exact H) | (have H2_ := (Option.bind_some _ _).symm.trans H; rw [hy444]; with_reducible exact H2_) | (have H2_ := (Option.bind_some _ _).symm.trans H; with_reducible exact H2_) | with_reducible exact H | (rw [hy444]; exact H) | exact H
           have Ny444 := Aside0.mk hy444
           clear hy444
           by_cases c45 : x5_1.length < 3518437208883
           · rw [if_pos c45] at H
             have LMc45 := Aside0.mk c45
             clear c45
             obtain ⟨y447, hy447⟩ : ∃ y_ : List (S39), y_ = (x5_1 ++ [(⟨0, 0, y444⟩ : S39)]) := ⟨_, rfl⟩
             replace H : (if 1 ≤ (x1_1.length : Int) then (spec_l13Of.l0 k1 l0 (x1_1.drop 1) y447) else (none)) = some r := by first | (rw [hy447]; with_reducible exact H) | (have H2_ := (Option.bind_some _ _).symm.trans H; rw [hy447]; with_reducible exact H2_) | (have H2_ := (Option.bind_some _ _).symm.trans H; with_reducible exact H2_) | with_reducible exact H | (rw [hy447]; exact H) | exact H
             have Ny447 := Aside0.mk hy447
             clear hy447
             by_cases c46 : 1 ≤ (x1_1.length : Int)
             · rw [if_pos c46] at H
               have c46b0 := eq_true c46
               have c46b1 : decide (1 ≤ (x1_1.length : Int)) = true := decide_eq_true c46
               clear c46
               obtain ⟨y450, hy450⟩ : ∃ y_ : List ByteArray, y_ = (x1_1.drop 1) := ⟨_, rfl⟩
               replace H : (spec_l13Of.l0 k1 l0 y450 y447) = some r := by first | (rw [hy450]; with_reducible exact H) | (have H2_ := (Option.bind_some _ _).symm.trans H; rw [hy450]; with_reducible exact H2_) | (have H2_ := (Option.bind_some _ _).symm.trans H; with_reducible exact H2_) | with_reducible exact H | (rw [hy450]; exact H) | exact H
               have Ny450 := Aside0.mk hy450
               clear hy450
               have H' := Aside0.mk H
               clear H
               obtain ⟨Ao47, co47, eo47⟩ := Kd.V_slice HO_1.out
               subst eo47
               go_wp2_with (first | ((with_reducible refine gate_callee (f := 104) rfl ?_); refine goesL_ (some 16) rfl rfl Try.func104 (by kernel_rfl) rfl #[.slice A0 l0.length c0, .slice Ao47 x1_1.length co47] rfl (by (try simp only [List.map_toArray, List.map_cons, List.map_nil]); first | done | rfl | (simp only [List.length_drop, List.length_take]; rfl)) ?_; (with_reducible refine (spec_l13Run.calls k1 _ _ l0 _ _ x1_1 t409 t410 _ ?side1 ?side2 ?side3 ?side4 A6.out).mono ?_); (case side1 => repeat (first | exact (Kd.C_below HR0.out HB.out) | (with_reducible refine Kd.C_alloc ?_ _) | (with_reducible refine Kd.C_drewN ?_ _) | (with_reducible refine Kd.C_drew ?_))); (case side2 => exact HC0.out); (case side3 => repeat (first | exact (Kd.V_reads' HO_1.out).2.2 | (with_reducible refine Kd.C_alloc ?_ _) | (with_reducible refine Kd.C_drewN ?_ _) | (with_reducible refine Kd.C_drew ?_))); (case side4 => exact (Kd.V_reads' HO_1.out).2.1); rintro e w' ⟨rfl, ⟨nd, rfl⟩⟩; refine ⟨_, rfl, ?_⟩; obtain ⟨Ao48, co48, eo48⟩ := Kd.S_slice HO_5.out; subst eo48; have p443 : 0 ≤ (0 : Int) := (by omega); have q443 : 0 < (x1_1.length : Int) := of_decide_eq_true (by assumption); obtain ⟨ad443, e443, hx443_0⟩ := Kd.at_string (Kd.V_reads' HO_1.out).2.2 0 p443 q443; cases e443; have qi443 : (0 < x1_1.length) = True := eq_true (by omega); (try rw [show ((0 : Int)).toNat = 0 from rfl] at hx443_0); (try rw [Addr.add_zero'] at hx443_0); replace p443 := eq_true p443; replace q443 := eq_true q443) | ((with_reducible refine gate_dst (N := 26) rfl ?_); refine Kd.R_lit Kd.string _ 9 ?hg (N := 26) ?hd (xs := ([rdOf ByteArray.empty x1_1 0] : List ByteArray)) (inner := [.string (rdOf ByteArray.empty x1_1 0)]) (ok := fun _ => True) (okp := fun _ => True) ?hr ?hp (fun _ hk => hk) trivial (Below.refl _ _) (Nat.le_refl _) (by simp) ?_; (case hd => rfl); (case hg => rfl); (case hr => first | (go_simp; done) | (go_simp; rfl)); (case hp => exact (Reps.one (show Kd.M Kd.string _ _ _ (rdOf ByteArray.empty x1_1 0) [.string (rdOf ByteArray.empty x1_1 0)] from rfl) (Reps.none _ _))); intro v445 w49 ho50 hb hg_ hnew_; clear hg_ hnew_; (first | rw [← Ny444.out] at ho50 | (simp only [Int.reduceToNat] at ho50; rw [← Ny444.out] at ho50)); have n0_ := Aside0.mk (Kd.V_elder' (by (with_reducible repeat (first | apply Kd.V_alloc | apply Kd.V_drewN | apply Kd.V_drew)); exact HO_1.out) (Kd.R_base ho50) hb); have n1_ := Aside0.mk (Kd.S_elder' (by (with_reducible repeat (first | apply Kd.S_alloc | apply Kd.S_drewN | apply Kd.S_drew)); exact HO_5.out) (Kd.R_base ho50) hb); have n2_ := Aside0.mk (Kd.R_lower (Kd.R_newM (M := fun k_ => (w.heap.size ≤ k_)) ho50 (below_size (by repeat (first | (with_reducible first | exact HB.out | apply below_alloc | apply pw_below_drewN | apply below_drew1) | exact HB.out))) (fun k_ h_ => h_)) (below_size (by repeat (first | (with_reducible first | exact HB.out | apply below_alloc | apply pw_below_drewN | apply below_drew1) | exact HB.out)))); have n3_ := Aside0.mk (below_step (by repeat (first | (with_reducible first | exact HB.out | apply below_alloc | apply pw_below_drewN | apply below_drew1) | exact HB.out)) hb); clear HO_1; clear HO_5; clear HB; have HO_1 := n0_; have HO_5 := n1_; have HO446 := n2_; have HB := n3_; clear n0_ n1_ n2_ n3_; clear hb ho50; obtain ⟨Ao51, co51, eo51⟩ := Kd.R_slice HO446.out; subst eo51) | ((with_reducible refine gate_builtin (b := .append) (xs := #[.tmp 22, .tmp 28]) rfl ?_); at_builtin; refine Kd.S_append k39 (w0 := w) w.heap.size rfl (.tmp 22) (.tmp 28) 25 39 (.agg #[(.int .i64 0), (.int .i64 0), (.slice none 0 0)]) 40 rfl Try.underlying25 info39 rfl (by decide) (by omega) (.slice Ao48 x5_1.length co48) x5_1 (⟨0, 0, y444⟩ : S39) [.int .i64 0, .int .i64 0, .slice Ao51 y444.length co51] (fun k_ => (w.heap.size ≤ k_)) (fun k_ => some k_ = (.slice Ao51 y444.length co51 : Value).ownBlock) rfl rfl ?aP (fun k_ hk_ => ((Kd.R_mono (ok' := fun k_ => ((fun k_ => (w.heap.size ≤ k_))) k_ ∧ some k_ ≠ (.slice Ao48 x5_1.length co48 : Value).ownBlock) (Kd.R_apart' (HO446.out) (Kd.S_typed HO_5.out) (by decide)) (fun k_ hk => ⟨hk.1.1, hk.2⟩))).1 k_ hk_.symm) ?aF ?aO ?aB ?aS ?aL ?_; (case aP => exact k39_mkM _ _ _ (⟨0, 0, y444⟩ : S39) (Kd.R_mono (Kd.R_tight rfl (Kd.R_mono (ok' := fun k_ => ((fun k_ => (w.heap.size ≤ k_))) k_ ∧ some k_ ≠ (.slice Ao48 x5_1.length co48 : Value).ownBlock) (Kd.R_apart' (HO446.out) (Kd.S_typed HO_5.out) (by decide)) (fun k_ hk => ⟨hk.1.1, hk.2⟩))) (fun _ h_ => h_))); (case aB => exact (by repeat (first | (with_reducible first | exact HB.out | apply below_alloc | apply pw_below_drewN | apply below_drew1) | exact HB.out))); (case aF => exact (fun k_ hk => (Nat.le_trans (below_size (by repeat (first | (with_reducible first | exact HB.out | apply below_alloc | apply pw_below_drewN | apply below_drew1) | exact HB.out))) hk))); (case aO => exact (by (with_reducible repeat (first | apply Kd.S_alloc | apply Kd.S_drewN | apply Kd.S_drew)); exact Kd.S_mono HO_5.out (fun k_ hk => ⟨hk.1, fun e_ => hk.2 e_⟩))); (case aS => exact (below_size (by repeat (first | (with_reducible first | exact HB.out | apply below_alloc | apply pw_below_drewN | apply below_drew1) | exact HB.out)))); (case aL => have := LMc45.out; omega); intro v448 w52 ho hb hg hat; rw [← Ny447.out] at ho; have n0_ := Aside0.mk (Kd.V_afterv (ok := (fun k_ => (P1_ k_ ∧ k_ < w.heap.size) ∧ some k_ ≠ (.slice Ao51 y444.length co51 : Value).ownBlock)) (by (with_reducible repeat (first | apply Kd.V_alloc | apply Kd.V_drewN | apply Kd.V_drew)); exact Kd.V_mono HO_1.out (fun _ hk => ⟨⟨hk.1.1, hk.2⟩, hk.1.2⟩)) hg hat); have n1_ := Aside0.mk (hb); have n2_ := Aside0.mk (ho); clear HO_1; clear HB; clear HO_5; clear HO446; have HO_1 := n0_; have HB := n1_; have HO449 := n2_; clear n0_ n1_ n2_; clear ho hb hg hat; have q53 : (1 : Int) ≤ ((x1_1.length : Int) : Int) := of_decide_eq_true (by assumption); obtain ⟨i053, hi053, _, hsz53, _⟩ := info_parts info9; have hroom53 : x1_1.length ≤ co47 := (Kd.V_reads' HO_1.out).2.1; have hC53 : Kd.F Kd.string _ _ (some ad443) x1_1.length x1_1 := (Kd.V_at (base := w.heap.size) HO_1.out).2.2; have hcut53 := cut_from (P := Try.prog) 30 9 .i64 Try.underlying30 hi053 1 hsz53 (some ad443) x1_1.length co47 1 (by omega) q53; have hr53 := Kd.F_cut (m := (1 : Int).toNat) (c := co47) hC53 (by omega) hroom53; obtain ⟨A53, hA53⟩ : ∃ A1, A1 = (if co47 = (1 : Int).toNat then (some ad443) else ((some ad443) : Option Addr).map (·.add ((1 : Int).toNat * 1))) := ⟨_, rfl⟩; obtain ⟨c53, hc53⟩ : ∃ c1, c1 = co47 - (1 : Int).toNat := ⟨_, rfl⟩; have hy53 : y450.length = x1_1.length - (1 : Int).toNat := (by rw [Ny450.out, List.length_drop] <;> omega); rw [show (x1_1).drop (1 : Int).toNat = y450 from Ny450.out.symm] at hr53; replace hr53 : Kd.F Kd.string _ _ A53 y450.length y450 := (by rw [hA53]; exact hr53); rw [← hy53, ← hA53, ← hc53] at hcut53; have HO454 := Aside0.mk (show Kd.V Kd.string 9 _ w.heap.size _ (.slice A53 y450.length c53) y450 from Kd.V_mk (by rw [hy53, hc53]; exact Nat.sub_le_sub_right hroom53 _) hr53); have HC454 := Aside0.mk (show y450.length ≤ c53 from by rw [hy53, hc53]; exact Nat.sub_le_sub_right hroom53 _); clear hr53 hC53 hroom53 hi053 hsz53 hc53; have KY53 := Aside0.mk hy53; have KA53 := Aside0.mk hA53; clear hy53 hA53; replace q53 := eq_true q53))
               go_roundg k1
               case measure => have := HK1.out; omega
               case rel => exact ⟨(y450), (y447), H', ⟨by have := HK1.out; omega⟩, ⟨by (with_reducible repeat (first | apply Kd.V_alloc | apply Kd.V_drewN | apply Kd.V_drew)); exact Kd.V_mono HO454.out (fun _ hk => ⟨hk.1.1, hk.2⟩)⟩, ⟨by (with_reducible repeat (first | apply Kd.S_alloc | apply Kd.S_drewN | apply Kd.S_drew)); exact HO449.out⟩, ⟨by repeat (first | (with_reducible first | exact HB.out | apply below_alloc | apply pw_below_drewN | apply below_drew1) | exact HB.out)⟩⟩
             · rw [if_neg c46] at H
               exact absurd H (by simp)
           · rw [if_neg c45] at H
             exact absurd H (by simp)
         · rw [if_neg c44] at H
           exact absurd H (by simp)
   · rw [if_neg c5] at H
     have c5b0 : decide (0 < (x1_1.length : Int)) = false := decide_eq_false c5
     have c5b1 : decide (0 < x1_1.length) = false := decide_eq_false (by omega)
     clear c5
     obtain rfl := Option.some.inj H
     obtain ⟨Ao54, co54, eo54⟩ := Kd.V_slice HO_1.out
     subst eo54
     go_wp2
     go_ret
     exact ⟨_, by first | rfl | (simp [errW_none, errW_some] <;> rfl) | (simp [*, errW_none, errW_some] <;> rfl), by (with_reducible repeat (first | apply Kd.S_alloc | apply Kd.S_drewN | apply Kd.S_drew)); exact HO_5.out, by repeat (first | (with_reducible first | exact HB.out | apply below_alloc | apply pw_below_drewN | apply below_drew1) | exact HB.out)⟩
end Go.Proofs.Ytfnhjaiioojbkaa.Q
end
section
namespace Go.Proofs.Ytfnhjaiioojbkaa.Q
open Go.RowKit Go.Proofs.YtfnhjaiioojbkaaW.PrintWords Go.Proofs.YtfnhjaiioojbkaaW.PrintLast Go.Proofs.YtfnhjaiioojbkaaW.PrintMore
attribute [local go_sem] max2_int min2_int max_two min_two max_three min_three max_four min_four   -- for this text's walks alone
set_option linter.unusedVariables false
set_option linter.unusedSimpArgs false
def spec_DeltaOf.f (k : Nat) (l0 : List ByteArray) (l1 : List ByteArray) : Option ((List (S39))) := (spec_l1Ok.f k l0).bind fun t455 => (if t455 = true then ((spec_l1Ok.f k l1).bind fun t456 => (if t456 = true then ((spec_l13Of.f k l0 l1).bind fun t457 => (some t457)) else (some ([] : List (S39))))) else (some ([] : List (S39))))
theorem spec_DeltaOf.mono : ∀ a0 a1 k, LeO (spec_DeltaOf.f k a0 a1) (spec_DeltaOf.f (k + 1) a0 a1) := by
 intro a0 a1 k
 unfold spec_DeltaOf.f
 repeat' first
  | (with_reducible exact spec_l13Of.mono _ _ _)
  | (with_reducible exact spec_l1Ok.mono _ _)
  | (with_reducible exact LeO.refl _)
  | (with_reducible exact LeO.none _)
  | (with_reducible refine LeO.ite ?_ ?_)
  | (with_reducible refine LeO.bind ?_ (fun _ => ?_))
  | exact spec_l13Of.mono _ _ _
  | exact spec_l1Ok.mono _ _
  | exact LeO.none _
  | refine LeO.ite ?_ ?_
  | refine LeO.bind ?_ (fun _ => ?_)
set_option maxHeartbeats 8000000 in
set_option maxRecDepth 100000 in
theorem spec_DeltaOf.calls (k : Nat) (A0 : Option Addr) (c0 : Nat) (l0 : List ByteArray) (A1 : Option Addr) (c1 : Nat) (l1 : List ByteArray) (r : List (S39)) (w : World) (hr0 : Kd.C Kd.string w A0 l0.length l0) (hc0 : l0.length ≤ c0) (hr1 : Kd.C Kd.string w A1 l1.length l1) (hc1 : l1.length ≤ c1) (h : spec_DeltaOf.f k l0 l1 = some r) :
 Calls Try.prog 23 #[.slice A0 l0.length c0, .slice A1 l1.length c1] w fun e w' => ∃ v0_ : Value, e = .returned (v0_) ∧ Kd.S k39 39 w' w.heap.size (fun _ => True) v0_ r ∧ Below w.heap.size w w' := by
 have HR0 := Aside0.mk hr0
 have HC0 := Aside0.mk hc0
 clear hr0 hc0
 have HR1 := Aside0.mk hr1
 have HC1 := Aside0.mk hc1
 clear hr1 hc1
 have HB := Aside0.mk (Below.refl w.heap.size w)
 have H : ((spec_l1Ok.f k l0).bind fun t455 => (if t455 = true then ((spec_l1Ok.f k l1).bind fun t456 => (if t456 = true then ((spec_l13Of.f k l0 l1).bind fun t457 => (some t457)) else (some ([] : List (S39))))) else (some ([] : List (S39))))) = some r := h
 clear h
 replace H := Option.bind_eq_some_iff.mp H
 obtain ⟨t455, A30, H⟩ := H
 replace H : (if t455 = true then ((spec_l1Ok.f k l1).bind fun t456 => (if t456 = true then ((spec_l13Of.f k l0 l1).bind fun t457 => (some t457)) else (some ([] : List (S39))))) else (some ([] : List (S39)))) = some r := H
 have A3 := Aside0.mk A30
 clear A30
 by_cases c4 : t455 = true
 · subst c4
   have H1 : ((spec_l1Ok.f k l1).bind fun t456 => (if t456 = true then ((spec_l13Of.f k l0 l1).bind fun t457 => (some t457)) else (some ([] : List (S39))))) = some r := by rw [if_pos rfl] at H; exact H
   clear H
   have H := H1
   clear H1
   replace H := Option.bind_eq_some_iff.mp H
   obtain ⟨t456, A50, H⟩ := H
   replace H : (if t456 = true then ((spec_l13Of.f k l0 l1).bind fun t457 => (some t457)) else (some ([] : List (S39)))) = some r := H
   have A5 := Aside0.mk A50
   clear A50
   by_cases c6 : t456 = true
   · subst c6
     have H1 : ((spec_l13Of.f k l0 l1).bind fun t457 => (some t457)) = some r := by rw [if_pos rfl] at H; exact H
     clear H
     have H := H1
     clear H1
     replace H := Option.bind_eq_some_iff.mp H
     obtain ⟨t457, A70, H⟩ := H
     replace H : (some t457) = some r := H
     have A7 := Aside0.mk A70
     clear A70
     obtain rfl := Option.some.inj H
     go_enter Try.func23, Try.ntmps23
     go_wp2_with (first | ((with_reducible refine gate_callee (f := 71) rfl ?_); refine goesL_ (some 6) rfl rfl Try.func71 (by kernel_rfl) rfl #[.slice A0 l0.length c0] rfl (by (try simp only [List.map_toArray, List.map_cons, List.map_nil]); first | done | rfl | (simp only [List.length_drop, List.length_take]; rfl)) ?_; (with_reducible refine (spec_l1Ok.calls k _ _ l0 true _ ?side1 ?side2 A3.out).mono ?_); (case side1 => repeat (first | exact HR0.out | (with_reducible refine Kd.C_alloc ?_ _) | (with_reducible refine Kd.C_drewN ?_ _) | (with_reducible refine Kd.C_drew ?_))); (case side2 => exact HC0.out); rintro e w' ⟨rfl, ⟨nd, rfl⟩⟩; refine ⟨_, rfl, ?_⟩) | (go_at_call 71; (with_reducible refine (spec_l1Ok.calls k _ _ l1 true _ ?side1 ?side2 A5.out).mono ?_); (case side1 => repeat (first | exact HR1.out | (with_reducible refine Kd.C_alloc ?_ _) | (with_reducible refine Kd.C_drewN ?_ _) | (with_reducible refine Kd.C_drew ?_))); (case side2 => exact HC1.out); rintro e w' ⟨rfl, ⟨nd, rfl⟩⟩) | ((with_reducible refine gate_callee (f := 72) rfl ?_); refine goesL_ (some 15) rfl rfl Try.func72 (by kernel_rfl) rfl #[.slice A0 l0.length c0, .slice A1 l1.length c1] rfl (by (try simp only [List.map_toArray, List.map_cons, List.map_nil]); first | done | rfl | (simp only [List.length_drop, List.length_take]; rfl)) ?_; (with_reducible refine (spec_l13Of.calls k _ _ l0 (fun k_ => k_ < w.heap.size) _ _ l1 t457 _ ?side1 ?side2 ?side3 A7.out).mono ?_); (case side1 => repeat (first | exact HR0.out | (with_reducible refine Kd.C_alloc ?_ _) | (with_reducible refine Kd.C_drewN ?_ _) | (with_reducible refine Kd.C_drew ?_))); (case side2 => exact HC0.out); (case side3 => exact Kd.V_mk HC1.out (Kd.F_below (Kd.C_F Kd.heap_string HR1.out) (by repeat (first | (with_reducible first | exact HB.out | apply below_alloc | apply pw_below_drewN | apply below_drew1) | exact HB.out)))); rintro e w8 ⟨v458, rfl, ho0, hb⟩; refine ⟨_, rfl, ?_⟩; have n0_ := Aside0.mk (Kd.S_lower (Kd.S_mono (ok' := fun k_ => True) ho0 (fun _ hk_ => trivial)) (below_size (by repeat (first | (with_reducible first | exact HB.out | apply below_alloc | apply pw_below_drewN | apply below_drew1) | exact HB.out)))); have n1_ := Aside0.mk (below_step (by repeat (first | (with_reducible first | exact HB.out | apply below_alloc | apply pw_below_drewN | apply below_drew1) | exact HB.out)) hb); clear HB; have HO459 := n0_; have HB := n1_; clear n0_ n1_; (try clear hb); (try clear hb2); (try clear hk); (try clear hi); (try clear ho0)))
     go_ret
     exact ⟨_, by first | rfl | (simp [errW_none, errW_some] <;> rfl) | (simp [*, errW_none, errW_some] <;> rfl), by (with_reducible repeat (first | apply Kd.S_alloc | apply Kd.S_drewN | apply Kd.S_drew)); exact HO459.out, by repeat (first | (with_reducible first | exact HB.out | apply below_alloc | apply pw_below_drewN | apply below_drew1) | exact HB.out)⟩
   · replace c6 := Bool.eq_false_iff.mpr c6
     subst c6
     have H1 : (some ([] : List (S39))) = some r := by rw [if_neg (show ¬ (false = true) by decide)] at H; exact H
     clear H
     have H := H1
     clear H1
     obtain rfl := Option.some.inj H
     go_enter Try.func23, Try.ntmps23
     go_wp2_with (first | ((with_reducible refine gate_callee (f := 71) rfl ?_); refine goesL_ (some 6) rfl rfl Try.func71 (by kernel_rfl) rfl #[.slice A0 l0.length c0] rfl (by (try simp only [List.map_toArray, List.map_cons, List.map_nil]); first | done | rfl | (simp only [List.length_drop, List.length_take]; rfl)) ?_; (with_reducible refine (spec_l1Ok.calls k _ _ l0 true _ ?side1 ?side2 A3.out).mono ?_); (case side1 => repeat (first | exact HR0.out | (with_reducible refine Kd.C_alloc ?_ _) | (with_reducible refine Kd.C_drewN ?_ _) | (with_reducible refine Kd.C_drew ?_))); (case side2 => exact HC0.out); rintro e w' ⟨rfl, ⟨nd, rfl⟩⟩; refine ⟨_, rfl, ?_⟩) | (go_at_call 71; (with_reducible refine (spec_l1Ok.calls k _ _ l1 false _ ?side1 ?side2 A5.out).mono ?_); (case side1 => repeat (first | exact HR1.out | (with_reducible refine Kd.C_alloc ?_ _) | (with_reducible refine Kd.C_drewN ?_ _) | (with_reducible refine Kd.C_drew ?_))); (case side2 => exact HC1.out); rintro e w' ⟨rfl, ⟨nd, rfl⟩⟩))
     go_ret
     exact ⟨_, by first | rfl | (simp [errW_none, errW_some] <;> rfl) | (simp [*, errW_none, errW_some] <;> rfl), by first | exact Kd.S_nil _ _ _ _ _ | exact Kd.N_nil _ _ _ _ _ | exact Kd.V_nil _ _ _ _ _ | exact Kd.Q_nil _ _ _ _ _ | exact Kd.R_nil _ _ _ _ _, by repeat (first | (with_reducible first | exact HB.out | apply below_alloc | apply pw_below_drewN | apply below_drew1) | exact HB.out)⟩
 · replace c4 := Bool.eq_false_iff.mpr c4
   subst c4
   have H1 : (some ([] : List (S39))) = some r := by rw [if_neg (show ¬ (false = true) by decide)] at H; exact H
   clear H
   have H := H1
   clear H1
   obtain rfl := Option.some.inj H
   go_enter Try.func23, Try.ntmps23
   go_wp2_with (first | ((with_reducible refine gate_callee (f := 71) rfl ?_); refine goesL_ (some 6) rfl rfl Try.func71 (by kernel_rfl) rfl #[.slice A0 l0.length c0] rfl (by (try simp only [List.map_toArray, List.map_cons, List.map_nil]); first | done | rfl | (simp only [List.length_drop, List.length_take]; rfl)) ?_; (with_reducible refine (spec_l1Ok.calls k _ _ l0 false _ ?side1 ?side2 A3.out).mono ?_); (case side1 => repeat (first | exact HR0.out | (with_reducible refine Kd.C_alloc ?_ _) | (with_reducible refine Kd.C_drewN ?_ _) | (with_reducible refine Kd.C_drew ?_))); (case side2 => exact HC0.out); rintro e w' ⟨rfl, ⟨nd, rfl⟩⟩; refine ⟨_, rfl, ?_⟩))
   go_ret
   exact ⟨_, by first | rfl | (simp [errW_none, errW_some] <;> rfl) | (simp [*, errW_none, errW_some] <;> rfl), by first | exact Kd.S_nil _ _ _ _ _ | exact Kd.N_nil _ _ _ _ _ | exact Kd.V_nil _ _ _ _ _ | exact Kd.Q_nil _ _ _ _ _ | exact Kd.R_nil _ _ _ _ _, by repeat (first | (with_reducible first | exact HB.out | apply below_alloc | apply pw_below_drewN | apply below_drew1) | exact HB.out)⟩
end Go.Proofs.Ytfnhjaiioojbkaa.Q
end
section
namespace Go.Proofs.Ytfnhjaiioojbkaa.Q
open Go.RowKit Go.Proofs.YtfnhjaiioojbkaaW.PrintWords Go.Proofs.YtfnhjaiioojbkaaW.PrintLast Go.Proofs.YtfnhjaiioojbkaaW.PrintMore
attribute [local go_sem] max2_int min2_int max_two min_two max_three min_three max_four min_four   -- for this text's walks alone
set_option linter.unusedVariables false
set_option linter.unusedSimpArgs false
mutual
def impl_DeltaDo.j0 : Nat → List ByteArray → List (S39) → Bool → Option (List ByteArray × Bool)
 | 0, _, _, _ => none
 | k + 1, x0, x1, x16 => if x16 = true then (some (([] : List ByteArray), false)) else (impl_DeltaDo.l0 k x0 (([] : List ByteArray)) x1 (x1.length : Int) 0)
def impl_DeltaDo.l0 : Nat → List ByteArray → List ByteArray → List (S39) → Int → Int → Option (List ByteArray × Bool)
 | 0, _, _, _, _, _ => none
 | k + 1, x0, x6, x18, x19, x20 => if x20 < x19 then (if 0 ≤ x20 then (if x20 < (x18.length : Int) then (if (wrap64 (((rd_T39 x18 x20).f0) + ((rd_T39 x18 x20).f1))) > (x0.length : Int) then (some (([] : List ByteArray), false)) else (if 0 ≤ ((rd_T39 x18 x20).f0) then (if ((rd_T39 x18 x20).f0) ≤ (wrap64 (((rd_T39 x18 x20).f0) + ((rd_T39 x18 x20).f1))) then (if (wrap64 (((rd_T39 x18 x20).f0) + ((rd_T39 x18 x20).f1))) ≤ (x0.length : Int) then (if x6.length + ((x0.take ((wrap64 (((rd_T39 x18 x20).f0) + ((rd_T39 x18 x20).f1))) : Int).toNat).drop (((rd_T39 x18 x20).f0) : Int).toNat).length < 8796093022208 then ((some (x6 ++ ((x0.take ((wrap64 (((rd_T39 x18 x20).f0) + ((rd_T39 x18 x20).f1))) : Int).toNat).drop (((rd_T39 x18 x20).f0) : Int).toNat) : List ByteArray)).bind fun y468 => (if y468.length + ((rd_T39 x18 x20).f2).length < 8796093022208 then (impl_DeltaDo.l0 k x0 (y468 ++ ((rd_T39 x18 x20).f2)) x18 x19 (wrap64 (x20 + 1))) else (none))) else (none)) else (none)) else (none)) else (none))) else (none)) else (none)) else ((impl_TextOk.f k x6).bind fun t474 => (if t474 = true then (some (x6, true)) else (some (([] : List ByteArray), false))))
end
def impl_DeltaDo.f (k : Nat) (l0 : List ByteArray) (l1 : List (S39)) : Option (List ByteArray × Bool) := (impl_TextOk.f k l0).bind fun t460 => (if t460 = true then ((impl_DeltaOk.f k l1).bind fun t461 => (impl_DeltaDo.j0 k l0 l1 (!t461))) else (impl_DeltaDo.j0 k l0 l1 true))
theorem impl_DeltaDo.mono_l : ∀ k, (∀ y0 y1 y2, LeO (impl_DeltaDo.j0 k y0 y1 y2) (impl_DeltaDo.j0 (k + 1) y0 y1 y2)) ∧ (∀ y0 y1 y2 y3 y4, LeO (impl_DeltaDo.l0 k y0 y1 y2 y3 y4) (impl_DeltaDo.l0 (k + 1) y0 y1 y2 y3 y4))
 | 0 => ⟨fun _ _ _ r h => by simp [impl_DeltaDo.j0] at h, fun _ _ _ _ _ r h => by simp [impl_DeltaDo.l0] at h⟩
 | k + 1 => by
  obtain ⟨ih0, ih1⟩ := impl_DeltaDo.mono_l k
  refine ⟨?_, ?_⟩
  · intro y0 y1 y2
    unfold impl_DeltaDo.j0
    repeat' first
    | (with_reducible exact ih0 _ _ _)
    | (with_reducible exact ih1 _ _ _ _ _)
    | (with_reducible exact impl_DeltaOk.mono _ _)
    | (with_reducible exact impl_TextOk.mono _ _)
    | (with_reducible exact LeO.refl _)
    | (with_reducible exact LeO.none _)
    | (with_reducible refine LeO.ite ?_ ?_)
    | (with_reducible refine LeO.bind ?_ (fun _ => ?_))
    | exact ih0 _ _ _
    | exact ih1 _ _ _ _ _
    | exact impl_DeltaOk.mono _ _
    | exact impl_TextOk.mono _ _
    | exact LeO.none _
    | refine LeO.ite ?_ ?_
    | refine LeO.bind ?_ (fun _ => ?_)
  · intro y0 y1 y2 y3 y4
    unfold impl_DeltaDo.l0
    repeat' first
    | (with_reducible exact ih0 _ _ _)
    | (with_reducible exact ih1 _ _ _ _ _)
    | (with_reducible exact impl_DeltaOk.mono _ _)
    | (with_reducible exact impl_TextOk.mono _ _)
    | (with_reducible exact LeO.refl _)
    | (with_reducible exact LeO.none _)
    | (with_reducible refine LeO.ite ?_ ?_)
    | (with_reducible refine LeO.bind ?_ (fun _ => ?_))
    | exact ih0 _ _ _
    | exact ih1 _ _ _ _ _
    | exact impl_DeltaOk.mono _ _
    | exact impl_TextOk.mono _ _
    | exact LeO.none _
    | refine LeO.ite ?_ ?_
    | refine LeO.bind ?_ (fun _ => ?_)
theorem impl_DeltaDo.mono : ∀ a0 a1 k, LeO (impl_DeltaDo.f k a0 a1) (impl_DeltaDo.f (k + 1) a0 a1) := by
 intro a0 a1 k
 obtain ⟨ih0, ih1⟩ := impl_DeltaDo.mono_l k
 unfold impl_DeltaDo.f
 repeat' first
  | (with_reducible exact ih0 _ _ _)
  | (with_reducible exact ih1 _ _ _ _ _)
  | (with_reducible exact impl_DeltaOk.mono _ _)
  | (with_reducible exact impl_TextOk.mono _ _)
  | (with_reducible exact LeO.refl _)
  | (with_reducible exact LeO.none _)
  | (with_reducible refine LeO.ite ?_ ?_)
  | (with_reducible refine LeO.bind ?_ (fun _ => ?_))
  | exact ih0 _ _ _
  | exact ih1 _ _ _ _ _
  | exact impl_DeltaOk.mono _ _
  | exact impl_TextOk.mono _ _
  | exact LeO.none _
  | refine LeO.ite ?_ ?_
  | refine LeO.bind ?_ (fun _ => ?_)
set_option maxHeartbeats 8000000 in
set_option maxRecDepth 100000 in
theorem impl_DeltaDo.calls (k : Nat) (A0 : Option Addr) (c0 : Nat) (l0 : List ByteArray) (A1 : Option Addr) (c1 : Nat) (l1 : List (S39)) (r1 : List ByteArray) (r2 : Bool) (w : World) (hr0 : Kd.C Kd.string w A0 l0.length l0) (hc0 : l0.length ≤ c0) (hr1 : Kd.C k39 w A1 l1.length l1) (hc1 : l1.length ≤ c1) (h : impl_DeltaDo.f k l0 l1 = some (r1, r2)) :
 Calls Try.prog 25 #[.slice A0 l0.length c0, .slice A1 l1.length c1] w fun e w' => ∃ v0_ : Value, e = .returned (.tuple #[v0_, .bool r2]) ∧ Kd.R Kd.string 9 w' w.heap.size (fun _ => True) v0_ r1 ∧ Below w.heap.size w w' := by
 have hu39 := Try.underlying39
 have HR0 := Aside0.mk hr0
 have HC0 := Aside0.mk hc0
 clear hr0 hc0
 have HR1 := Aside0.mk hr1
 have HC1 := Aside0.mk hc1
 clear hr1 hc1
 have HB := Aside0.mk (Below.refl w.heap.size w)
 have H : ((impl_TextOk.f k l0).bind fun t460 => (if t460 = true then ((impl_DeltaOk.f k l1).bind fun t461 => (impl_DeltaDo.j0 k l0 l1 (!t461))) else (impl_DeltaDo.j0 k l0 l1 true))) = some (r1, r2) := h
 clear h
 have HC3 := Aside0.mk H
 clear H
 go_enter Try.func25, Try.ntmps25
 go_upto_region 1 with (fail)
 go_cut [16] (fun v16 wc => ∃ (kq : Nat) (x16_2 : Bool), v16 = .bool x16_2 ∧ Aside0 (impl_DeltaDo.j0 kq l0 l1 x16_2 = some (r1, r2)) ∧ Aside0 (kq ≤ k) ∧ Aside0 (Below w.heap.size w wc))
 case first =>
  have H := HC3.out
  clear HC3
  replace H := Option.bind_eq_some_iff.mp H
  obtain ⟨t460, A40, H⟩ := H
  replace H : (if t460 = true then ((impl_DeltaOk.f k l1).bind fun t461 => (impl_DeltaDo.j0 k l0 l1 (!t461))) else (impl_DeltaDo.j0 k l0 l1 true)) = some (r1, r2) := H
  have A4 := Aside0.mk A40
  clear A40
  by_cases c5 : t460 = true
  · subst c5
    have H1 : ((impl_DeltaOk.f k l1).bind fun t461 => (impl_DeltaDo.j0 k l0 l1 (!t461))) = some (r1, r2) := by rw [if_pos rfl] at H; exact H
    clear H
    have H := H1
    clear H1
    replace H := Option.bind_eq_some_iff.mp H
    obtain ⟨t461, A60, H⟩ := H
    replace H : (impl_DeltaDo.j0 k l0 l1 (!t461)) = some (r1, r2) := H
    have A6 := Aside0.mk A60
    clear A60
    have H' := Aside0.mk H
    clear H
    go_wp2_with (first | ((with_reducible refine gate_callee (f := 24) rfl ?_); refine goesL_ (some 10) rfl rfl Try.func24 (by kernel_rfl) rfl #[.slice A0 l0.length c0] rfl (by (try simp only [List.map_toArray, List.map_cons, List.map_nil]); first | done | rfl | (simp only [List.length_drop, List.length_take]; rfl)) ?_; (with_reducible refine (impl_TextOk.calls k _ _ l0 true _ ?side1 ?side2 A4.out).mono ?_); (case side1 => repeat (first | exact (Kd.C_below HR0.out HB.out) | (with_reducible refine Kd.C_alloc ?_ _) | (with_reducible refine Kd.C_drewN ?_ _) | (with_reducible refine Kd.C_drew ?_))); (case side2 => exact HC0.out); rintro e w' ⟨rfl, ⟨nd, rfl⟩⟩; refine ⟨_, rfl, ?_⟩) | (go_at_call 18; (with_reducible refine (impl_DeltaOk.calls k _ _ l1 t461 _ ?side1 ?side2 A6.out).mono ?_); (case side1 => repeat (first | exact (Kd.C_below HR1.out (by repeat (first | (with_reducible first | exact HB.out | apply below_alloc | apply pw_below_drewN | apply below_drew1) | exact HB.out))) | (with_reducible refine Kd.C_alloc ?_ _) | (with_reducible refine Kd.C_drewN ?_ _) | (with_reducible refine Kd.C_drew ?_))); (case side2 => exact HC1.out); rintro e w7 ⟨rfl, hb⟩; have n0_ := Aside0.mk (below_step (by repeat (first | (with_reducible first | exact HB.out | apply below_alloc | apply pw_below_drewN | apply below_drew1) | exact HB.out)) hb); clear HB; have HB := n0_; clear n0_; (try clear hb); (try clear hb2); (try clear hk); (try clear hi)))
    go_meet
    case rel => exact ⟨_, (!t461), (by first | rfl | (simp; done) | (simp [*]; done)), H', ⟨by first | omega | exact Nat.le_refl _⟩, ⟨by repeat (first | (with_reducible first | exact HB.out | apply below_alloc | apply pw_below_drewN | apply below_drew1) | exact HB.out)⟩⟩
  · replace c5 := Bool.eq_false_iff.mpr c5
    subst c5
    have H1 : (impl_DeltaDo.j0 k l0 l1 true) = some (r1, r2) := by rw [if_neg (show ¬ (false = true) by decide)] at H; exact H
    clear H
    have H := H1
    clear H1
    have H' := Aside0.mk H
    clear H
    go_wp2_with (first | ((with_reducible refine gate_callee (f := 24) rfl ?_); refine goesL_ (some 10) rfl rfl Try.func24 (by kernel_rfl) rfl #[.slice A0 l0.length c0] rfl (by (try simp only [List.map_toArray, List.map_cons, List.map_nil]); first | done | rfl | (simp only [List.length_drop, List.length_take]; rfl)) ?_; (with_reducible refine (impl_TextOk.calls k _ _ l0 false _ ?side1 ?side2 A4.out).mono ?_); (case side1 => repeat (first | exact (Kd.C_below HR0.out HB.out) | (with_reducible refine Kd.C_alloc ?_ _) | (with_reducible refine Kd.C_drewN ?_ _) | (with_reducible refine Kd.C_drew ?_))); (case side2 => exact HC0.out); rintro e w' ⟨rfl, ⟨nd, rfl⟩⟩; refine ⟨_, rfl, ?_⟩))
    go_meet
    case rel => exact ⟨_, (true), (by first | rfl | (simp; done) | (simp [*]; done)), H', ⟨by first | omega | exact Nat.le_refl _⟩, ⟨by repeat (first | (with_reducible first | exact HB.out | apply below_alloc | apply pw_below_drewN | apply below_drew1) | exact HB.out)⟩⟩
 case rest =>
  clear HC3
  try clear c1
  try clear c2
  try clear p2
  try clear c5
  obtain ⟨kq, x16_2, rfl, HA, HJ2, HB⟩ := hcut
  cases kq with
  | zero => exact absurd HA.out (by simp [impl_DeltaDo.j0])
  | succ kj2 =>
   have H := HA.out
   clear HA
   simp only [impl_DeltaDo.j0] at H
   by_cases c8 : x16_2 = true
   · subst c8
     have H1 : (some (([] : List ByteArray), false)) = some (r1, r2) := by rw [if_pos rfl] at H; exact H
     clear H
     have H := H1
     clear H1
     simp only [Option.some.injEq, Prod.mk.injEq] at H
     obtain ⟨rfl, rfl⟩ := H
     go_wp2
     go_ret2
     exact ⟨_, by first | rfl | (simp [errW_none, errW_some] <;> rfl) | (simp [*, errW_none, errW_some] <;> rfl), by first | exact Kd.R_nil _ _ _ _ _ | exact Kd.N_nil _ _ _ _ _ | exact Kd.V_nil _ _ _ _ _ | exact Kd.Q_nil _ _ _ _ _ | exact Kd.S_nil _ _ _ _ _, by repeat (first | (with_reducible first | exact HB.out | apply below_alloc | apply pw_below_drewN | apply below_drew1) | exact HB.out)⟩
   · replace c8 := Bool.eq_false_iff.mpr c8
     subst c8
     have H1 : (impl_DeltaDo.l0 kj2 l0 (([] : List ByteArray)) l1 (l1.length : Int) 0) = some (r1, r2) := by rw [if_neg (show ¬ (false = true) by decide)] at H; exact H
     clear H
     have H := H1
     clear H1
     obtain ⟨y462, hy462⟩ : ∃ y_ : List ByteArray, y_ = (([] : List ByteArray)) := ⟨_, rfl⟩
     replace H : (impl_DeltaDo.l0 kj2 l0 y462 l1 (l1.length : Int) 0) = some (r1, r2) := by first | (rw [hy462]; with_reducible exact H) | (have H2_ := (Option.bind_some _ _).symm.trans H; rw [hy462]; with_reducible exact H2_) | (have H2_ := (Option.bind_some _ _).symm.trans H; with_reducible exact H2_) | with_reducible exact H | (rw [hy462]; exact H) | exact H
     have Ny462 := Aside0.mk hy462
     clear hy462
     have H' := Aside0.mk H
     clear H
     go_wp2_with (first | ((with_reducible refine gate_dst (N := 17) rfl ?_); refine Kd.R_lit Kd.string _ 9 ?hg (N := 17) ?hd (xs := ([] : List ByteArray)) (inner := []) (ok := fun _ => True) (okp := fun _ => True) ?hr ?hp (fun _ hk => hk) trivial (Below.refl _ _) (Nat.le_refl _) (by simp) ?_; (case hd => rfl); (case hg => rfl); (case hr => first | (go_simp; done) | (go_simp; rfl)); (case hp => exact (Reps.none _ _)); intro v463 w9 ho10 hb hg_ hnew_; clear hg_ hnew_; (first | rw [← Ny462.out] at ho10 | (simp only [Int.reduceToNat] at ho10; rw [← Ny462.out] at ho10)); have n0_ := Aside0.mk (Kd.R_lower ho10 (below_size (by repeat (first | (with_reducible first | exact HB.out | apply below_alloc | apply pw_below_drewN | apply below_drew1) | exact HB.out)))); have n1_ := Aside0.mk (below_step (by repeat (first | (with_reducible first | exact HB.out | apply below_alloc | apply pw_below_drewN | apply below_drew1) | exact HB.out)) hb); clear HB; have HO464 := n0_; have HB := n1_; clear n0_ n1_; clear hb ho10))
     go_loopg [6, 20] kj2 (fun kq v6 v20 w' => ∃ (x6_2 : List ByteArray) (x20_2 : Int), v20 = .int .i64 x20_2 ∧ Aside0 (impl_DeltaDo.l0 kq l0 x6_2 l1 (l1.length : Int) x20_2 = some (r1, r2)) ∧ Aside0 (kq ≤ kj2) ∧ Aside0 (Kd.R Kd.string 9 w' w.heap.size (fun _ => True) v6 x6_2) ∧ Aside0 (Below w.heap.size w w'))
     case atStart => exact ⟨(y462), (0), (by first | rfl | (simp; done) | (simp [*]; done)), H', ⟨Nat.le_refl _⟩, ⟨by (with_reducible repeat (first | apply Kd.R_alloc | apply Kd.R_drewN | apply Kd.R_drew)); exact HO464.out⟩, ⟨by repeat (first | (with_reducible first | exact HB.out | apply below_alloc | apply pw_below_drewN | apply below_drew1) | exact HB.out)⟩⟩
     case round =>
      clear H'
      try clear c1
      try clear c2
      try clear p2
      try clear c5
      try clear c8
      try clear p2
      obtain ⟨x6_2, x20_2, rfl, HA, HK2, HO_6, HB⟩ := hrel
      cases gk with
      | zero => exact absurd HA.out (by simp [impl_DeltaDo.l0])
      | succ k2 =>
       have H := HA.out
       clear HA
       simp only [impl_DeltaDo.l0] at H
       by_cases c11 : x20_2 < (l1.length : Int)
       · rw [if_pos c11] at H
         have c11b0 : decide (x20_2 < (l1.length : Int)) = true := decide_eq_true c11
         clear c11
         by_cases c12 : 0 ≤ x20_2
         · rw [if_pos c12] at H
           have c12b0 : decide (0 ≤ x20_2) = true := decide_eq_true c12
           clear c12
           by_cases c13 : x20_2 < (l1.length : Int)
           · rw [if_pos c13] at H
             have c13b0 : decide (x20_2 < (l1.length : Int)) = true := decide_eq_true c13
             clear c13
             by_cases c14 : (wrap64 (((rd_T39 l1 x20_2).f0) + ((rd_T39 l1 x20_2).f1))) > (l0.length : Int)
             · rw [if_pos c14] at H
               have c14b0 : decide ((l0.length : Int) < (wrap64 (((rd_T39 l1 x20_2).f0) + ((rd_T39 l1 x20_2).f1)))) = true := decide_eq_true c14
               clear c14
               simp only [Option.some.injEq, Prod.mk.injEq] at H
               obtain ⟨rfl, rfl⟩ := H
               have p465 : 0 ≤ (x20_2 : Int) := of_decide_eq_true (by assumption)
               have q465 : x20_2 < (l1.length : Int) := of_decide_eq_true (by assumption)
               obtain ⟨ad465, A465_2, c465_2, e465, hx465_0, hx465_1, hx465_2, hl465_2, hi465_2⟩ := at_T39 HR1.out x20_2 p465 q465
               cases e465
               replace hx465_0 := (HB.out.cell (World.block_lt_of_cell? w _ hx465_0)).trans hx465_0
               replace hx465_1 := (HB.out.cell (World.block_lt_of_cell? w _ hx465_1)).trans hx465_1
               replace hx465_2 := (HB.out.cell (World.block_lt_of_cell? w _ hx465_2)).trans hx465_2
               have HR465_2 := Aside0.mk hi465_2
               have HC465_2 := Aside0.mk hl465_2
               clear hi465_2 hl465_2
               replace p465 := eq_true p465
               replace q465 := eq_true q465
               go_wp2_with (first | ((with_reducible refine gate_dst (N := 8) rfl ?_); refine box_event ?hg (N := 8) ?hd (cs := #[.int .i64 0, .int .i64 0, .slice none 0 0]) (t := 39) ?hr ?_; (case hd => rfl); (case hg => rfl); (case hr => first | (go_simp; done) | (go_simp; rfl)); intro gb466 hg w15 hbox hb; have n0_ := Aside0.mk (Kd.R_below (by (with_reducible repeat (first | apply Kd.R_alloc | apply Kd.R_drewN | apply Kd.R_drew)); exact HO_6.out) hb); have n1_ := Aside0.mk (below_step (by repeat (first | (with_reducible first | exact HB.out | apply below_alloc | apply pw_below_drewN | apply below_drew1) | exact HB.out)) hb); have n2_ := Aside0.mk (hbox); have n3_ := Aside0.mk ((by rw [hg]; exact (below_size (by repeat (first | (with_reducible first | exact HB.out | apply below_alloc | apply pw_below_drewN | apply below_drew1) | exact HB.out))) : w.heap.size ≤ gb466)); have n4_ := Aside0.mk ((by rw [hg]; exact (below_size (by repeat (first | (with_reducible first | exact HB.out | apply below_alloc | apply pw_below_drewN | apply below_drew1) | exact HB.out))) : w.heap.size ≤ gb466)); clear HO_6; clear HB; have HO_6 := n0_; have HB := n1_; have BK466 := n2_; have GW466 := n3_; have GE466 := n4_; clear n0_ n1_ n2_ n3_ n4_; clear hb hbox hg; have hcz16_0 : w15.cell? ⟨gb466, 0, none⟩ = some (.int .i64 0) := (blk_cell BK466.out 0).trans rfl; have hcz16_1 : w15.cell? ⟨gb466, 1, none⟩ = some (.int .i64 0) := (blk_cell BK466.out 1).trans rfl; have hcz16_2 : w15.cell? ⟨gb466, 2, none⟩ = some (.slice none 0 0) := (blk_cell BK466.out 2).trans rfl; have hfz16_0 := blk_frozen BK466.out 0; have hfz16_1 := blk_frozen BK466.out 1; have hfz16_2 := blk_frozen BK466.out 2))
               go_ret2
               exact ⟨_, by first | rfl | (simp [errW_none, errW_some] <;> rfl) | (simp [*, errW_none, errW_some] <;> rfl), by first | exact Kd.R_nil _ _ _ _ _ | exact Kd.N_nil _ _ _ _ _ | exact Kd.V_nil _ _ _ _ _ | exact Kd.Q_nil _ _ _ _ _ | exact Kd.S_nil _ _ _ _ _, by repeat (first | (with_reducible first | exact HB.out | apply below_alloc | apply pw_below_drewN | apply below_drew1 | refine below_set ?_ GE466.out) | exact HB.out)⟩
             · rw [if_neg c14] at H
               have c14b0 : decide ((l0.length : Int) < (wrap64 (((rd_T39 l1 x20_2).f0) + ((rd_T39 l1 x20_2).f1)))) = false := decide_eq_false c14
               clear c14
               by_cases c17 : 0 ≤ ((rd_T39 l1 x20_2).f0)
               · rw [if_pos c17] at H
                 have c17b0 := eq_true c17
                 have c17b1 : decide (0 ≤ ((rd_T39 l1 x20_2).f0)) = true := decide_eq_true c17
                 clear c17
                 by_cases c18 : ((rd_T39 l1 x20_2).f0) ≤ (wrap64 (((rd_T39 l1 x20_2).f0) + ((rd_T39 l1 x20_2).f1)))
                 · rw [if_pos c18] at H
                   have c18b0 := eq_true c18
                   have c18b1 : decide (((rd_T39 l1 x20_2).f0) ≤ (wrap64 (((rd_T39 l1 x20_2).f0) + ((rd_T39 l1 x20_2).f1)))) = true := decide_eq_true c18
                   by_cases c19 : (wrap64 (((rd_T39 l1 x20_2).f0) + ((rd_T39 l1 x20_2).f1))) ≤ (l0.length : Int)
                   · rw [if_pos c19] at H
                     have c19b0 := eq_true c19
                     have c19b1 : decide ((wrap64 (((rd_T39 l1 x20_2).f0) + ((rd_T39 l1 x20_2).f1))) ≤ (l0.length : Int)) = true := decide_eq_true c19
                     by_cases c20 : x6_2.length + ((l0.take ((wrap64 (((rd_T39 l1 x20_2).f0) + ((rd_T39 l1 x20_2).f1))) : Int).toNat).drop (((rd_T39 l1 x20_2).f0) : Int).toNat).length < 8796093022208
                     · rw [if_pos c20] at H
                       have LMc20 := Aside0.mk c20
                       clear c20
                       obtain ⟨y468, hy468⟩ : ∃ y_ : List ByteArray, y_ = (x6_2 ++ ((l0.take ((wrap64 (((rd_T39 l1 x20_2).f0) + ((rd_T39 l1 x20_2).f1))) : Int).toNat).drop (((rd_T39 l1 x20_2).f0) : Int).toNat)) := ⟨_, rfl⟩
                       replace H : (if y468.length + ((rd_T39 l1 x20_2).f2).length < 8796093022208 then (impl_DeltaDo.l0 k2 l0 (y468 ++ ((rd_T39 l1 x20_2).f2)) l1 (l1.length : Int) (wrap64 (x20_2 + 1))) else (none)) = some (r1, r2) := by first | (rw [hy468]; with_reducible exact H) | (have H2_ := (Option.bind_some _ _).symm.trans H; rw [hy468]; with_reducible exact H2_) | (have H2_ := (Option.bind_some _ _).symm.trans H; with_reducible exact H2_) | with_reducible exact H | (rw [hy468]; exact H) | exact H
                       have Ny468 := Aside0.mk hy468
                       clear hy468
                       by_cases c21 : y468.length + ((rd_T39 l1 x20_2).f2).length < 8796093022208
                       · rw [if_pos c21] at H
                         have LMc21 := Aside0.mk c21
                         clear c21
                         obtain ⟨y471, hy471⟩ : ∃ y_ : List ByteArray, y_ = (y468 ++ ((rd_T39 l1 x20_2).f2)) := ⟨_, rfl⟩
                         replace H : (impl_DeltaDo.l0 k2 l0 y471 l1 (l1.length : Int) (wrap64 (x20_2 + 1))) = some (r1, r2) := by first | (rw [hy471]; with_reducible exact H) | (have H2_ := (Option.bind_some _ _).symm.trans H; rw [hy471]; with_reducible exact H2_) | (have H2_ := (Option.bind_some _ _).symm.trans H; with_reducible exact H2_) | with_reducible exact H | (rw [hy471]; exact H) | exact H
                         have Ny471 := Aside0.mk hy471
                         clear hy471
                         have H' := Aside0.mk H
                         clear H
                         have p465 : 0 ≤ (x20_2 : Int) := of_decide_eq_true (by assumption)
                         have q465 : x20_2 < (l1.length : Int) := of_decide_eq_true (by assumption)
                         obtain ⟨ad465, A465_2, c465_2, e465, hx465_0, hx465_1, hx465_2, hl465_2, hi465_2⟩ := at_T39 HR1.out x20_2 p465 q465
                         cases e465
                         replace hx465_0 := (HB.out.cell (World.block_lt_of_cell? w _ hx465_0)).trans hx465_0
                         replace hx465_1 := (HB.out.cell (World.block_lt_of_cell? w _ hx465_1)).trans hx465_1
                         replace hx465_2 := (HB.out.cell (World.block_lt_of_cell? w _ hx465_2)).trans hx465_2
                         have HR465_2 := Aside0.mk hi465_2
                         have HC465_2 := Aside0.mk hl465_2
                         clear hi465_2 hl465_2
                         replace p465 := eq_true p465
                         replace q465 := eq_true q465
                         go_wp2_with (first | ((with_reducible refine gate_dst (N := 8) rfl ?_); refine box_event ?hg (N := 8) ?hd (cs := #[.int .i64 0, .int .i64 0, .slice none 0 0]) (t := 39) ?hr ?_; (case hd => rfl); (case hg => rfl); (case hr => first | (go_simp; done) | (go_simp; rfl)); intro gb466 hg w22 hbox hb; have n0_ := Aside0.mk (Kd.R_below (by (with_reducible repeat (first | apply Kd.R_alloc | apply Kd.R_drewN | apply Kd.R_drew)); exact HO_6.out) hb); have n1_ := Aside0.mk (below_step (by repeat (first | (with_reducible first | exact HB.out | apply below_alloc | apply pw_below_drewN | apply below_drew1) | exact HB.out)) hb); have n2_ := Aside0.mk (hbox); have n3_ := Aside0.mk ((by rw [hg]; exact (below_size (by repeat (first | (with_reducible first | exact HB.out | apply below_alloc | apply pw_below_drewN | apply below_drew1) | exact HB.out))) : w.heap.size ≤ gb466)); have n4_ := Aside0.mk ((by rw [hg]; exact (below_size (by repeat (first | (with_reducible first | exact HB.out | apply below_alloc | apply pw_below_drewN | apply below_drew1) | exact HB.out))) : w.heap.size ≤ gb466)); clear HO_6; clear HB; have HO_6 := n0_; have HB := n1_; have BK466 := n2_; have GW466 := n3_; have GE466 := n4_; clear n0_ n1_ n2_ n3_ n4_; clear hb hbox hg; have hcz23_0 : w22.cell? ⟨gb466, 0, none⟩ = some (.int .i64 0) := (blk_cell BK466.out 0).trans rfl; have hcz23_1 : w22.cell? ⟨gb466, 1, none⟩ = some (.int .i64 0) := (blk_cell BK466.out 1).trans rfl; have hcz23_2 : w22.cell? ⟨gb466, 2, none⟩ = some (.slice none 0 0) := (blk_cell BK466.out 2).trans rfl; have hfz23_0 := blk_frozen BK466.out 0; have hfz23_1 := blk_frozen BK466.out 1; have hfz23_2 := blk_frozen BK466.out 2; obtain ⟨i024, hi024, _, hsz24, _⟩ := info_parts info9; obtain ⟨A24, hcut24, hA24, hC24⟩ := print_mid_of (P := Try.prog) Value.string (⟨#[]⟩ : ByteArray) 30 9 .i64 .i64 Try.underlying30 hi024 hsz24 A0 c0 l0 ((rd_T39 l1 x20_2).f0) (wrap64 (((rd_T39 l1 x20_2).f0) + ((rd_T39 l1 x20_2).f1))) (of_decide_eq_true (by assumption)) (by first | omega | exact of_decide_eq_true (by assumption)) (of_decide_eq_true (by assumption)) HC0.out; have HR467 := Aside0.mk (Kd.C_of_reads (h1 := fun _ => rfl) (hA24 _ (Kd.reads_of_C HR0.out))); have HC467 := Aside0.mk hC24; clear hA24 hC24 hi024 hsz24) | ((with_reducible refine gate_builtin (b := .append) (xs := #[.tmp 32, .tmp 41]) rfl ?_); at_builtin; refine Kd.R_append_rows Kd.string (w0 := w) w.heap.size rfl (.tmp 32) (.tmp 41) 30 9 (.string ⟨#[]⟩) 16 rfl Try.underlying30 info9 rfl (by decide) (by omega) u6 x6_2 ((l0.take ((wrap64 (((rd_T39 l1 x20_2).f0) + ((rd_T39 l1 x20_2).f1))) : Int).toNat).drop (((rd_T39 l1 x20_2).f0) : Int).toNat) _ _ _ (fun _ => True) (fun _ => False) rfl rfl ?aO ?aR (fun _ _ h => h) (fun _ h => h.elim) ?aF ?aB ?aS ?aL ?_; (case aR => first | (rw [← show ((l0.take ((wrap64 (((rd_T39 l1 x20_2).f0) + ((rd_T39 l1 x20_2).f1))) : Int).toNat).drop (((rd_T39 l1 x20_2).f0) : Int).toNat).length = ((wrap64 (((rd_T39 l1 x20_2).f0) + ((rd_T39 l1 x20_2).f1))).toNat - ((rd_T39 l1 x20_2).f0).toNat) from (by rw [List.length_drop, List.length_take]; have h_ : ((wrap64 (((rd_T39 l1 x20_2).f0) + ((rd_T39 l1 x20_2).f1))) : Int) ≤ (l0.length : Int) := of_decide_eq_true (by assumption); omega)]; exact Kd.C_below HR467.out (by repeat (first | (with_reducible first | exact HB.out | apply below_alloc | apply pw_below_drewN | apply below_drew1 | refine below_set ?_ GE466.out) | exact HB.out))) | (exact Kd.C_below HR467.out (by repeat (first | (with_reducible first | exact HB.out | apply below_alloc | apply pw_below_drewN | apply below_drew1 | refine below_set ?_ GE466.out) | exact HB.out)))); (case aB => exact (by repeat (first | (with_reducible first | exact HB.out | apply below_alloc | apply pw_below_drewN | apply below_drew1 | refine below_set ?_ GE466.out) | exact HB.out))); (case aF => exact (fun _ _ => trivial)); (case aO => exact (by (with_reducible repeat (first | apply Kd.R_alloc | apply Kd.R_drewN | apply Kd.R_drew)); exact Kd.R_mono (Kd.R_far (p := ⟨gb466, 2, none⟩) (Kd.R_far (p := ⟨gb466, 1, none⟩) (Kd.R_far (p := ⟨gb466, 0, none⟩) (Kd.R_types HO_6.out BK466.out (by decide)) (fun _ hk => hk.2) (.int .i64 ((rd_T39 l1 x20_2).f0))) (fun _ hk => hk.2) (.int .i64 ((rd_T39 l1 x20_2).f1))) (fun _ hk => hk.2) (.slice A465_2 ((rd_T39 l1 x20_2).f2).length c465_2)) (fun _ hk => trivial))); (case aS => exact (below_size (by repeat (first | (with_reducible first | exact HB.out | apply below_alloc | apply pw_below_drewN | apply below_drew1 | refine below_set ?_ GE466.out) | exact HB.out)))); (case aL => have := LMc20.out; have hlx_ := (show ((l0.take ((wrap64 (((rd_T39 l1 x20_2).f0) + ((rd_T39 l1 x20_2).f1))) : Int).toNat).drop (((rd_T39 l1 x20_2).f0) : Int).toNat).length = ((wrap64 (((rd_T39 l1 x20_2).f0) + ((rd_T39 l1 x20_2).f1))).toNat - ((rd_T39 l1 x20_2).f0).toNat) from (by rw [List.length_drop, List.length_take]; have h_ : ((wrap64 (((rd_T39 l1 x20_2).f0) + ((rd_T39 l1 x20_2).f1))) : Int) ≤ (l0.length : Int) := of_decide_eq_true (by assumption); omega)); omega); intro v469 w25 ho hb hg hat; rw [← Ny468.out] at ho; have n0_ := Aside0.mk (blk_grown (g := gb466) (o := .cells #[.int .i64 ((rd_T39 l1 x20_2).f0), .int .i64 ((rd_T39 l1 x20_2).f1), .slice A465_2 ((rd_T39 l1 x20_2).f2).length c465_2] 39 (0, 0)) (by (with_reducible repeat (first | refine blk_drewN ?_ _ | refine blk_drew ?_ | refine blk_alloc ?_ _)); refine blk_put (cs := #[.int .i64 ((rd_T39 l1 x20_2).f0), .int .i64 ((rd_T39 l1 x20_2).f1), .slice none 0 0]) ?_ 2 _ rfl; (with_reducible repeat (first | refine blk_drewN ?_ _ | refine blk_drew ?_ | refine blk_alloc ?_ _)); refine blk_put (cs := #[.int .i64 ((rd_T39 l1 x20_2).f0), .int .i64 0, .slice none 0 0]) ?_ 1 _ rfl; (with_reducible repeat (first | refine blk_drewN ?_ _ | refine blk_drew ?_ | refine blk_alloc ?_ _)); refine blk_put (cs := #[.int .i64 0, .int .i64 0, .slice none 0 0]) ?_ 0 _ rfl; (with_reducible repeat (first | refine blk_drewN ?_ _ | refine blk_drew ?_ | refine blk_alloc ?_ _)); exact BK466.out) hg (Kd.R_ne HO_6.out BK466.out (by decide))); have n1_ := Aside0.mk (hb); have n2_ := Aside0.mk (ho); clear BK466; clear HB; clear HO_6; have BK466 := n0_; have HB := n1_; have HO470 := n2_; clear n0_ n1_ n2_; clear ho hb hg hat; have hcz26_0 : w25.cell? ⟨gb466, 0, none⟩ = some (.int .i64 ((rd_T39 l1 x20_2).f0)) := (blk_cell BK466.out 0).trans rfl; have hcz26_1 : w25.cell? ⟨gb466, 1, none⟩ = some (.int .i64 ((rd_T39 l1 x20_2).f1)) := (blk_cell BK466.out 1).trans rfl; have hcz26_2 : w25.cell? ⟨gb466, 2, none⟩ = some (.slice A465_2 ((rd_T39 l1 x20_2).f2).length c465_2) := (blk_cell BK466.out 2).trans rfl; have hfz26_0 := blk_frozen BK466.out 0; have hfz26_1 := blk_frozen BK466.out 1; have hfz26_2 := blk_frozen BK466.out 2) | ((with_reducible refine gate_builtin (b := .append) (xs := #[.tmp 43, .tmp 45]) rfl ?_); at_builtin; refine Kd.R_append_rows Kd.string (w0 := w) w.heap.size rfl (.tmp 43) (.tmp 45) 30 9 (.string ⟨#[]⟩) 16 rfl Try.underlying30 info9 rfl (by decide) (by omega) v469 y468 ((rd_T39 l1 x20_2).f2) _ _ _ (fun _ => True) (fun _ => False) rfl rfl ?aO ?aR (fun _ _ h => h) (fun _ h => h.elim) ?aF ?aB ?aS ?aL ?_; (case aR => repeat (first | exact (Kd.C_below HR465_2.out HB.out) | (with_reducible refine Kd.C_alloc ?_ _) | (with_reducible refine Kd.C_drewN ?_ _) | (with_reducible refine Kd.C_drew ?_))); (case aB => exact (by repeat (first | (with_reducible first | exact HB.out | apply below_alloc | apply pw_below_drewN | apply below_drew1 | refine below_set ?_ GE466.out) | exact HB.out))); (case aF => exact (fun _ _ => trivial)); (case aO => exact (by (with_reducible repeat (first | apply Kd.R_alloc | apply Kd.R_drewN | apply Kd.R_drew)); exact HO470.out)); (case aS => exact (below_size (by repeat (first | (with_reducible first | exact HB.out | apply below_alloc | apply pw_below_drewN | apply below_drew1 | refine below_set ?_ GE466.out) | exact HB.out)))); (case aL => have := LMc21.out; omega); intro v472 w27 ho hb hg hat; rw [← Ny471.out] at ho; have n0_ := Aside0.mk (blk_grown (g := gb466) (o := .cells #[.int .i64 ((rd_T39 l1 x20_2).f0), .int .i64 ((rd_T39 l1 x20_2).f1), .slice A465_2 ((rd_T39 l1 x20_2).f2).length c465_2] 39 (0, 0)) (by (with_reducible repeat (first | refine blk_drewN ?_ _ | refine blk_drew ?_ | refine blk_alloc ?_ _)); exact BK466.out) hg (Kd.R_ne HO470.out BK466.out (by decide))); have n1_ := Aside0.mk (hb); have n2_ := Aside0.mk (ho); clear BK466; clear HB; clear HO470; have BK466 := n0_; have HB := n1_; have HO473 := n2_; clear n0_ n1_ n2_; clear ho hb hg hat))
                         go_roundg k2
                         case measure => have := HJ2.out; have := HK2.out; omega
                         case rel => exact ⟨(y471), (wrap64 (x20_2 + 1)), (by first | rfl | (simp; done) | (simp [*]; done)), H', ⟨by have := HJ2.out; have := HK2.out; omega⟩, ⟨by (with_reducible repeat (first | apply Kd.R_alloc | apply Kd.R_drewN | apply Kd.R_drew)); exact HO473.out⟩, ⟨by repeat (first | (with_reducible first | exact HB.out | apply below_alloc | apply pw_below_drewN | apply below_drew1 | refine below_set ?_ GE466.out) | exact HB.out)⟩⟩
                       · rw [if_neg c21] at H
                         exact absurd H (by simp)
                     · rw [if_neg c20] at H
                       exact absurd H (by simp)
                   · rw [if_neg c19] at H
                     exact absurd H (by simp)
                 · rw [if_neg c18] at H
                   exact absurd H (by simp)
               · rw [if_neg c17] at H
                 exact absurd H (by simp)
           · rw [if_neg c13] at H
             exact absurd H (by simp)
         · rw [if_neg c12] at H
           exact absurd H (by simp)
       · rw [if_neg c11] at H
         have c11b0 : decide (x20_2 < (l1.length : Int)) = false := decide_eq_false c11
         clear c11
         replace H := Option.bind_eq_some_iff.mp H
         obtain ⟨t474, A280, H⟩ := H
         replace H : (if t474 = true then (some (x6_2, true)) else (some (([] : List ByteArray), false))) = some (r1, r2) := H
         have A28 := Aside0.mk A280
         clear A280
         by_cases c29 : t474 = true
         · subst c29
           have H1 : (some (x6_2, true)) = some (r1, r2) := by rw [if_pos rfl] at H; exact H
           clear H
           have H := H1
           clear H1
           simp only [Option.some.injEq, Prod.mk.injEq] at H
           obtain ⟨rfl, rfl⟩ := H
           obtain ⟨Ao30, co30, eo30⟩ := Kd.R_slice HO_6.out
           subst eo30
           go_wp2_with (first | ((with_reducible refine gate_callee (f := 24) rfl ?_); refine goesL_ (some 49) rfl rfl Try.func24 (by kernel_rfl) rfl #[.slice Ao30 x6_2.length co30] rfl (by (try simp only [List.map_toArray, List.map_cons, List.map_nil]); first | done | rfl | (simp only [List.length_drop, List.length_take]; rfl)) ?_; (with_reducible refine (impl_TextOk.calls k2 _ _ x6_2 true _ ?side1 ?side2 A28.out).mono ?_); (case side1 => repeat (first | exact (Kd.R_reads' HO_6.out).2.2 | (with_reducible refine Kd.C_alloc ?_ _) | (with_reducible refine Kd.C_drewN ?_ _) | (with_reducible refine Kd.C_drew ?_))); (case side2 => exact (Kd.R_reads' HO_6.out).2.1); rintro e w' ⟨rfl, ⟨nd, rfl⟩⟩; refine ⟨_, rfl, ?_⟩))
           go_ret2
           exact ⟨_, by first | rfl | (simp [errW_none, errW_some] <;> rfl) | (simp [*, errW_none, errW_some] <;> rfl), by (with_reducible repeat (first | apply Kd.R_alloc | apply Kd.R_drewN | apply Kd.R_drew)); exact HO_6.out, by repeat (first | (with_reducible first | exact HB.out | apply below_alloc | apply pw_below_drewN | apply below_drew1) | exact HB.out)⟩
         · replace c29 := Bool.eq_false_iff.mpr c29
           subst c29
           have H1 : (some (([] : List ByteArray), false)) = some (r1, r2) := by rw [if_neg (show ¬ (false = true) by decide)] at H; exact H
           clear H
           have H := H1
           clear H1
           simp only [Option.some.injEq, Prod.mk.injEq] at H
           obtain ⟨rfl, rfl⟩ := H
           obtain ⟨Ao31, co31, eo31⟩ := Kd.R_slice HO_6.out
           subst eo31
           go_wp2_with (first | ((with_reducible refine gate_callee (f := 24) rfl ?_); refine goesL_ (some 49) rfl rfl Try.func24 (by kernel_rfl) rfl #[.slice Ao31 x6_2.length co31] rfl (by (try simp only [List.map_toArray, List.map_cons, List.map_nil]); first | done | rfl | (simp only [List.length_drop, List.length_take]; rfl)) ?_; (with_reducible refine (impl_TextOk.calls k2 _ _ x6_2 false _ ?side1 ?side2 A28.out).mono ?_); (case side1 => repeat (first | exact (Kd.R_reads' HO_6.out).2.2 | (with_reducible refine Kd.C_alloc ?_ _) | (with_reducible refine Kd.C_drewN ?_ _) | (with_reducible refine Kd.C_drew ?_))); (case side2 => exact (Kd.R_reads' HO_6.out).2.1); rintro e w' ⟨rfl, ⟨nd, rfl⟩⟩; refine ⟨_, rfl, ?_⟩))
           go_ret2
           exact ⟨_, by first | rfl | (simp [errW_none, errW_some] <;> rfl) | (simp [*, errW_none, errW_some] <;> rfl), by first | exact Kd.R_nil _ _ _ _ _ | exact Kd.N_nil _ _ _ _ _ | exact Kd.V_nil _ _ _ _ _ | exact Kd.Q_nil _ _ _ _ _ | exact Kd.S_nil _ _ _ _ _, by repeat (first | (with_reducible first | exact HB.out | apply below_alloc | apply pw_below_drewN | apply below_drew1) | exact HB.out)⟩
end Go.Proofs.Ytfnhjaiioojbkaa.Q
end
