/- FnDeltaDo: for every argument the law returns true, and its arguments read behind the call as they read before. No conditions. -/
import Derived.SizedLaws
import Derived.ChangeSlices
import Derived.Test.YtfnhjaiioojbkaaRows
import Derived.WalkKit
import Derived.ProofKit
import Derived.OpenShut
import Derived.ShutString
import Derived.ChangeOld
import Derived.Below
import Derived.Test.YtfnhjaiioojbkaaMDeltaDo0
import Derived.Test.YtfnhjaiioojbkaaMDeltaDo1
import Derived.Test.YtfnhjaiioojbkaaMDeltaDo2
import Derived.Test.YtfnhjaiioojbkaaMDeltaDo3
import Derived.Test.YtfnhjaiioojbkaaMDeltaDo4
set_option linter.unusedVariables false
set_option linter.unusedSimpArgs false
section
namespace Go.Proofs.Ytfnhjaiioojbkaa.Q
open Go.RowKit Go.Proofs.YtfnhjaiioojbkaaW.PrintWords Go.Proofs.YtfnhjaiioojbkaaW.PrintLast Go.Proofs.YtfnhjaiioojbkaaW.PrintMore
attribute [local go_sem] max2_int min2_int max_two min_two max_three min_three max_four min_four   -- for this text's walks alone
set_option linter.unusedVariables false
set_option linter.unusedSimpArgs false
def impl_DeltaOf.f (k : Nat) (l0 : List ByteArray) (l1 : List ByteArray) : Option ((List (S39))) := (impl_TextOk.f k l0).bind fun t379 => (if t379 = true then ((impl_TextOk.f k l1).bind fun t380 => (if t380 = true then ((impl_deltaOf.f k l0 l1).bind fun t381 => (some t381)) else (some ([] : List (S39))))) else (some ([] : List (S39))))
theorem impl_DeltaOf.mono : ∀ a0 a1 k, LeO (impl_DeltaOf.f k a0 a1) (impl_DeltaOf.f (k + 1) a0 a1) := by
 intro a0 a1 k
 unfold impl_DeltaOf.f
 repeat' first
  | (with_reducible exact impl_TextOk.mono _ _)
  | (with_reducible exact impl_deltaOf.mono _ _ _)
  | (with_reducible exact LeO.refl _)
  | (with_reducible exact LeO.none _)
  | (with_reducible refine LeO.ite ?_ ?_)
  | (with_reducible refine LeO.bind ?_ (fun _ => ?_))
  | exact impl_TextOk.mono _ _
  | exact impl_deltaOf.mono _ _ _
  | exact LeO.none _
  | refine LeO.ite ?_ ?_
  | refine LeO.bind ?_ (fun _ => ?_)
set_option maxHeartbeats 8000000 in
set_option maxRecDepth 100000 in
theorem impl_DeltaOf.calls (k : Nat) (A0 : Option Addr) (c0 : Nat) (l0 : List ByteArray) (A1 : Option Addr) (c1 : Nat) (l1 : List ByteArray) (r : List (S39)) (w : World) (hr0 : Kd.C Kd.string w A0 l0.length l0) (hc0 : l0.length ≤ c0) (hr1 : Kd.C Kd.string w A1 l1.length l1) (hc1 : l1.length ≤ c1) (h : impl_DeltaOf.f k l0 l1 = some r) :
 Calls Try.prog 21 #[.slice A0 l0.length c0, .slice A1 l1.length c1] w fun e w' => ∃ v0_ : Value, e = .returned (v0_) ∧ Kd.S k39 39 w' w.heap.size (fun _ => True) v0_ r ∧ Below w.heap.size w w' := by
 have HR0 := Aside0.mk hr0
 have HC0 := Aside0.mk hc0
 clear hr0 hc0
 have HR1 := Aside0.mk hr1
 have HC1 := Aside0.mk hc1
 clear hr1 hc1
 have HB := Aside0.mk (Below.refl w.heap.size w)
 have H : ((impl_TextOk.f k l0).bind fun t379 => (if t379 = true then ((impl_TextOk.f k l1).bind fun t380 => (if t380 = true then ((impl_deltaOf.f k l0 l1).bind fun t381 => (some t381)) else (some ([] : List (S39))))) else (some ([] : List (S39))))) = some r := h
 clear h
 replace H := Option.bind_eq_some_iff.mp H
 obtain ⟨t379, A30, H⟩ := H
 replace H : (if t379 = true then ((impl_TextOk.f k l1).bind fun t380 => (if t380 = true then ((impl_deltaOf.f k l0 l1).bind fun t381 => (some t381)) else (some ([] : List (S39))))) else (some ([] : List (S39)))) = some r := H
 have A3 := Aside0.mk A30
 clear A30
 by_cases c4 : t379 = true
 · subst c4
   have H1 : ((impl_TextOk.f k l1).bind fun t380 => (if t380 = true then ((impl_deltaOf.f k l0 l1).bind fun t381 => (some t381)) else (some ([] : List (S39))))) = some r := by rw [if_pos rfl] at H; exact H
   clear H
   have H := H1
   clear H1
   replace H := Option.bind_eq_some_iff.mp H
   obtain ⟨t380, A50, H⟩ := H
   replace H : (if t380 = true then ((impl_deltaOf.f k l0 l1).bind fun t381 => (some t381)) else (some ([] : List (S39)))) = some r := H
   have A5 := Aside0.mk A50
   clear A50
   by_cases c6 : t380 = true
   · subst c6
     have H1 : ((impl_deltaOf.f k l0 l1).bind fun t381 => (some t381)) = some r := by rw [if_pos rfl] at H; exact H
     clear H
     have H := H1
     clear H1
     replace H := Option.bind_eq_some_iff.mp H
     obtain ⟨t381, A70, H⟩ := H
     replace H : (some t381) = some r := H
     have A7 := Aside0.mk A70
     clear A70
     obtain rfl := Option.some.inj H
     go_enter Try.func21, Try.ntmps21
     go_wp2_with (first | ((with_reducible refine gate_callee (f := 24) rfl ?_); refine goesL_ (some 6) rfl rfl Try.func24 (by kernel_rfl) rfl #[.slice A0 l0.length c0] rfl (by (try simp only [List.map_toArray, List.map_cons, List.map_nil]); first | done | rfl | (simp only [List.length_drop, List.length_take]; rfl)) ?_; (with_reducible refine (impl_TextOk.calls k _ _ l0 true _ ?side1 ?side2 A3.out).mono ?_); (case side1 => repeat (first | exact HR0.out | (with_reducible refine Kd.C_alloc ?_ _) | (with_reducible refine Kd.C_drewN ?_ _) | (with_reducible refine Kd.C_drew ?_))); (case side2 => exact HC0.out); rintro e w' ⟨rfl, ⟨nd, rfl⟩⟩; refine ⟨_, rfl, ?_⟩) | (go_at_call 24; (with_reducible refine (impl_TextOk.calls k _ _ l1 true _ ?side1 ?side2 A5.out).mono ?_); (case side1 => repeat (first | exact HR1.out | (with_reducible refine Kd.C_alloc ?_ _) | (with_reducible refine Kd.C_drewN ?_ _) | (with_reducible refine Kd.C_drew ?_))); (case side2 => exact HC1.out); rintro e w' ⟨rfl, ⟨nd, rfl⟩⟩) | ((with_reducible refine gate_callee (f := 70) rfl ?_); refine goesL_ (some 15) rfl rfl Try.func70 (by kernel_rfl) rfl #[.slice A0 l0.length c0, .slice A1 l1.length c1] rfl (by (try simp only [List.map_toArray, List.map_cons, List.map_nil]); first | done | rfl | (simp only [List.length_drop, List.length_take]; rfl)) ?_; (with_reducible refine (impl_deltaOf.calls k _ _ l0 (fun k_ => k_ < w.heap.size) _ _ l1 t381 _ ?side1 ?side2 ?side3 A7.out).mono ?_); (case side1 => repeat (first | exact HR0.out | (with_reducible refine Kd.C_alloc ?_ _) | (with_reducible refine Kd.C_drewN ?_ _) | (with_reducible refine Kd.C_drew ?_))); (case side2 => exact HC0.out); (case side3 => exact Kd.V_mk HC1.out (Kd.F_below (Kd.C_F Kd.heap_string HR1.out) (by repeat (first | (with_reducible first | exact HB.out | apply below_alloc | apply pw_below_drewN | apply below_drew1) | exact HB.out)))); rintro e w8 ⟨v382, rfl, ho0, hb⟩; refine ⟨_, rfl, ?_⟩; have n0_ := Aside0.mk (Kd.S_lower (Kd.S_mono (ok' := fun k_ => True) ho0 (fun _ hk_ => trivial)) (below_size (by repeat (first | (with_reducible first | exact HB.out | apply below_alloc | apply pw_below_drewN | apply below_drew1) | exact HB.out)))); have n1_ := Aside0.mk (below_step (by repeat (first | (with_reducible first | exact HB.out | apply below_alloc | apply pw_below_drewN | apply below_drew1) | exact HB.out)) hb); clear HB; have HO383 := n0_; have HB := n1_; clear n0_ n1_; (try clear hb); (try clear hb2); (try clear hk); (try clear hi); (try clear ho0)))
     go_ret
     exact ⟨_, by first | rfl | (simp [errW_none, errW_some] <;> rfl) | (simp [*, errW_none, errW_some] <;> rfl), by (with_reducible repeat (first | apply Kd.S_alloc | apply Kd.S_drewN | apply Kd.S_drew)); exact HO383.out, by repeat (first | (with_reducible first | exact HB.out | apply below_alloc | apply pw_below_drewN | apply below_drew1) | exact HB.out)⟩
   · replace c6 := Bool.eq_false_iff.mpr c6
     subst c6
     have H1 : (some ([] : List (S39))) = some r := by rw [if_neg (show ¬ (false = true) by decide)] at H; exact H
     clear H
     have H := H1
     clear H1
     obtain rfl := Option.some.inj H
     go_enter Try.func21, Try.ntmps21
     go_wp2_with (first | ((with_reducible refine gate_callee (f := 24) rfl ?_); refine goesL_ (some 6) rfl rfl Try.func24 (by kernel_rfl) rfl #[.slice A0 l0.length c0] rfl (by (try simp only [List.map_toArray, List.map_cons, List.map_nil]); first | done | rfl | (simp only [List.length_drop, List.length_take]; rfl)) ?_; (with_reducible refine (impl_TextOk.calls k _ _ l0 true _ ?side1 ?side2 A3.out).mono ?_); (case side1 => repeat (first | exact HR0.out | (with_reducible refine Kd.C_alloc ?_ _) | (with_reducible refine Kd.C_drewN ?_ _) | (with_reducible refine Kd.C_drew ?_))); (case side2 => exact HC0.out); rintro e w' ⟨rfl, ⟨nd, rfl⟩⟩; refine ⟨_, rfl, ?_⟩) | (go_at_call 24; (with_reducible refine (impl_TextOk.calls k _ _ l1 false _ ?side1 ?side2 A5.out).mono ?_); (case side1 => repeat (first | exact HR1.out | (with_reducible refine Kd.C_alloc ?_ _) | (with_reducible refine Kd.C_drewN ?_ _) | (with_reducible refine Kd.C_drew ?_))); (case side2 => exact HC1.out); rintro e w' ⟨rfl, ⟨nd, rfl⟩⟩))
     go_ret
     exact ⟨_, by first | rfl | (simp [errW_none, errW_some] <;> rfl) | (simp [*, errW_none, errW_some] <;> rfl), by first | exact Kd.S_nil _ _ _ _ _ | exact Kd.N_nil _ _ _ _ _ | exact Kd.V_nil _ _ _ _ _ | exact Kd.Q_nil _ _ _ _ _ | exact Kd.R_nil _ _ _ _ _, by repeat (first | (with_reducible first | exact HB.out | apply below_alloc | apply pw_below_drewN | apply below_drew1) | exact HB.out)⟩
 · replace c4 := Bool.eq_false_iff.mpr c4
   subst c4
   have H1 : (some ([] : List (S39))) = some r := by rw [if_neg (show ¬ (false = true) by decide)] at H; exact H
   clear H
   have H := H1
   clear H1
   obtain rfl := Option.some.inj H
   go_enter Try.func21, Try.ntmps21
   go_wp2_with (first | ((with_reducible refine gate_callee (f := 24) rfl ?_); refine goesL_ (some 6) rfl rfl Try.func24 (by kernel_rfl) rfl #[.slice A0 l0.length c0] rfl (by (try simp only [List.map_toArray, List.map_cons, List.map_nil]); first | done | rfl | (simp only [List.length_drop, List.length_take]; rfl)) ?_; (with_reducible refine (impl_TextOk.calls k _ _ l0 false _ ?side1 ?side2 A3.out).mono ?_); (case side1 => repeat (first | exact HR0.out | (with_reducible refine Kd.C_alloc ?_ _) | (with_reducible refine Kd.C_drewN ?_ _) | (with_reducible refine Kd.C_drew ?_))); (case side2 => exact HC0.out); rintro e w' ⟨rfl, ⟨nd, rfl⟩⟩; refine ⟨_, rfl, ?_⟩))
   go_ret
   exact ⟨_, by first | rfl | (simp [errW_none, errW_some] <;> rfl) | (simp [*, errW_none, errW_some] <;> rfl), by first | exact Kd.S_nil _ _ _ _ _ | exact Kd.N_nil _ _ _ _ _ | exact Kd.V_nil _ _ _ _ _ | exact Kd.Q_nil _ _ _ _ _ | exact Kd.R_nil _ _ _ _ _, by repeat (first | (with_reducible first | exact HB.out | apply below_alloc | apply pw_below_drewN | apply below_drew1) | exact HB.out)⟩
end Go.Proofs.Ytfnhjaiioojbkaa.Q
end
section
namespace Go.Proofs.Ytfnhjaiioojbkaa.Q
open Go.RowKit Go.Proofs.YtfnhjaiioojbkaaW.PrintWords Go.Proofs.YtfnhjaiioojbkaaW.PrintLast Go.Proofs.YtfnhjaiioojbkaaW.PrintMore
attribute [local go_sem] max2_int min2_int max_two min_two max_three min_three max_four min_four   -- for this text's walks alone
set_option linter.unusedVariables false
set_option linter.unusedSimpArgs false
def laws_smDelta.l0 : Nat → List (S39) → List (S39) → Int → Option (Bool)
 | 0, _, _, _ => none
 | k + 1, x0, x1, x5 => if x5 < (x0.length : Int) then (if 0 ≤ x5 then (if x5 < (x1.length : Int) then (if ((rd_T39 x0 x5).f0) = ((rd_T39 x1 x5).f0) then (if ((rd_T39 x0 x5).f1) = ((rd_T39 x1 x5).f1) then ((laws_smTexts.f k ((rd_T39 x0 x5).f2) ((rd_T39 x1 x5).f2)).bind fun t403 => (if t403 = true then (laws_smDelta.l0 k x0 x1 (wrap64 (x5 + 1))) else (some false))) else (some false)) else (some false)) else (none)) else (none)) else (some true)
def laws_smDelta.f (k : Nat) (l0 : List (S39)) (l1 : List (S39)) : Option (Bool) := if (l0.length : Int) = (l1.length : Int) then (laws_smDelta.l0 k l0 l1 0) else (some false)
theorem laws_smDelta.mono_l : ∀ k, (∀ y0 y1 y2, LeO (laws_smDelta.l0 k y0 y1 y2) (laws_smDelta.l0 (k + 1) y0 y1 y2))
 | 0 => fun _ _ _ r h => by simp [laws_smDelta.l0] at h
 | k + 1 => by
  have ih0 := laws_smDelta.mono_l k
  · intro y0 y1 y2
    unfold laws_smDelta.l0
    repeat' first
    | (with_reducible exact ih0 _ _ _)
    | (with_reducible exact laws_smTexts.mono _ _ _)
    | (with_reducible exact LeO.refl _)
    | (with_reducible exact LeO.none _)
    | (with_reducible refine LeO.ite ?_ ?_)
    | (with_reducible refine LeO.bind ?_ (fun _ => ?_))
    | exact ih0 _ _ _
    | exact laws_smTexts.mono _ _ _
    | exact LeO.none _
    | refine LeO.ite ?_ ?_
    | refine LeO.bind ?_ (fun _ => ?_)
theorem laws_smDelta.mono : ∀ a0 a1 k, LeO (laws_smDelta.f k a0 a1) (laws_smDelta.f (k + 1) a0 a1) := by
 intro a0 a1 k
 have ih0 := laws_smDelta.mono_l k
 unfold laws_smDelta.f
 repeat' first
  | (with_reducible exact ih0 _ _ _)
  | (with_reducible exact laws_smTexts.mono _ _ _)
  | (with_reducible exact LeO.refl _)
  | (with_reducible exact LeO.none _)
  | (with_reducible refine LeO.ite ?_ ?_)
  | (with_reducible refine LeO.bind ?_ (fun _ => ?_))
  | exact ih0 _ _ _
  | exact laws_smTexts.mono _ _ _
  | exact LeO.none _
  | refine LeO.ite ?_ ?_
  | refine LeO.bind ?_ (fun _ => ?_)
set_option maxHeartbeats 2000000 in
theorem laws_smDelta.calls (k : Nat) (A0 : Option Addr) (c0 : Nat) (l0 : List S39) (A1 : Option Addr) (c1 : Nat) (l1 : List S39) (r : Bool) (w : World) (hr0 : Kd.C k39 w A0 l0.length l0) (hc0 : l0.length ≤ c0) (hr1 : Kd.C k39 w A1 l1.length l1) (hc1 : l1.length ≤ c1) (h : laws_smDelta.f k l0 l1 = some r) :
 Calls Try.prog 22 #[.slice A0 l0.length c0, .slice A1 l1.length c1] w fun e w' => e = .returned (.bool r) ∧ Below w.heap.size w w' := by
 have HR0 := Aside0.mk hr0
 have HR1 := Aside0.mk hr1
 have hl0 : l0.length ≤ 9223372036854775807 := hr0.2.1
 clear hr0 hr1 hc0 hc1
 unfold laws_smDelta.f at h
 by_cases c3 : (l0.length : Int) = (l1.length : Int)
 · rw [if_pos c3] at h
   have H := Aside0.mk h
   have c3' : l0.length = l1.length := by omega
   have C3 := Aside0.mk c3'
   have c3b : ((l0.length : Int) != (l1.length : Int)) = false := by simp [c3']
   have c3c : (l0.length == l1.length) = true := by simp [c3']
   clear h c3 c3'
   go_enter Try.func22, Try.ntmps22
   go_wp2
   clear c3b c3c
   go_loopg [5] k (fun kq v5 wr => ∃ i : Nat, v5 = .int .i64 i ∧ i ≤ l0.length ∧ Aside0 (laws_smDelta.l0 kq l0 l1 i = some r) ∧ Aside0 (Drawn0 w wr))
   case atStart => exact ⟨0, rfl, Nat.zero_le _, H, ⟨Drawn0.refl _⟩⟩
   case round =>
    clear H
    obtain ⟨i, rfl, hi, HA, HD⟩ := hrel
    cases gk with
    | zero => exact absurd HA.out (by simp [laws_smDelta.l0])
    | succ k1 =>
     have H := HA.out
     clear HA
     simp only [laws_smDelta.l0] at H
     by_cases hlt : i < l0.length
     · have h1 : i < l1.length := by rw [← C3.out]; exact hlt
       rw [if_pos (by omega), if_pos (by omega), if_pos (by omega)] at H
       obtain ⟨ad0, A2, c2, rfl, x0, x1, x2, hl2, hC2⟩ := at_T39 (Kd.C_below HR0.out HD.out.below) (i : Int) (by omega) (by omega)
       obtain ⟨ad1, B2, d2, rfl, y0, y1, y2, hm2, hD2⟩ := at_T39 (Kd.C_below HR1.out HD.out.below) (i : Int) (by omega) (by omega)
       have HH := Aside0.mk H
       simp only [Int.toNat_natCast] at x0 x1 x2 y0 y1 y2
       have XC := Aside0.mk hC2
       have YC := Aside0.mk hD2
       have XL := Aside0.mk hl2
       have YL := Aside0.mk hm2
       clear H hC2 hD2 hl2 hm2
       have b0 : decide ((i : Int) < (l0.length : Int)) = true := decide_eq_true (by omega)
       have b1 : decide ((i : Int) < (l1.length : Int)) = true := decide_eq_true (by omega)
       have b2 : (i : Int) < (l0.length : Int) := by omega
       have b3 : (i : Int) < (l1.length : Int) := by omega
       by_cases e0 : (rd_T39 l0 i).f0 = (rd_T39 l1 i).f0
       · by_cases e1 : (rd_T39 l0 i).f1 = (rd_T39 l1 i).f1
         · have H := HH.out
           clear HH
           rw [if_pos e0, if_pos e1] at H
           obtain ⟨t, ht, H⟩ := Option.bind_eq_some_iff.mp H
           have T := Aside0.mk ht
           have HH := Aside0.mk H
           have e0b : ((rd_T39 l0 i).f0 != (rd_T39 l1 i).f0) = false := by simp [e0]
           have e1b : ((rd_T39 l0 i).f1 != (rd_T39 l1 i).f1) = false := by simp [e1]
           clear ht H e0 e1
           go_wp2
           go_quiet ((go_at_call 26; exact quietD (fun W hW => laws_smTexts.calls k1 _ _ _ _ _ _ t W (Kd.C_below XC.out hW.below) XL.out (Kd.C_below YC.out hW.below) YL.out T.out)))
           have HD2 := Aside0.mk (HD.out.step nq)
           clear HD
           cases t with
           | true =>
            have H := HH.out
            rw [if_pos rfl, show wrap64 ((i : Int) + 1) = ((i + 1 : Nat) : Int) by unfold wrap64; omega] at H
            have HA := Aside0.mk H
            clear H HH
            go_wp2
            go_roundg k1
            case measure => omega
            case rel => exact ⟨i + 1, by go_num, by omega, HA, HD2⟩
           | false =>
            have H := HH.out
            rw [if_neg (by decide)] at H
            obtain rfl := Option.some.inj H
            go_wp2
            go_ret
            exact ⟨rfl, HD2.out.below⟩
         · have H := HH.out
           clear HH
           rw [if_pos e0, if_neg e1] at H
           obtain rfl := Option.some.inj H
           have e0b : ((rd_T39 l0 i).f0 != (rd_T39 l1 i).f0) = false := by simp [e0]
           have e1b : ((rd_T39 l0 i).f1 != (rd_T39 l1 i).f1) = true := by simp [e1]
           clear H e0 e1
           go_wp2
           go_quiet (fail)
           have HD2 := Aside0.mk (HD.out.step nq)
           clear HD
           go_wp2
           go_ret
           exact ⟨rfl, HD2.out.below⟩
       · have H := HH.out
         clear HH
         rw [if_neg e0] at H
         obtain rfl := Option.some.inj H
         have e0b : ((rd_T39 l0 i).f0 != (rd_T39 l1 i).f0) = true := by simp [e0]
         clear H e0
         go_wp2
         go_quiet (fail)
         have HD2 := Aside0.mk (HD.out.step nq)
         clear HD
         go_wp2
         go_ret
         exact ⟨rfl, HD2.out.below⟩
     · rw [if_neg (by omega)] at H
       obtain rfl := Option.some.inj H
       have b0 : ¬ (i : Int) < (l0.length : Int) := by omega
       clear H
       go_wp2
       go_ret
       exact ⟨rfl, HD.out.below⟩
 · rw [if_neg c3] at h
   obtain rfl := Option.some.inj h
   have c3b : ((l0.length : Int) != (l1.length : Int)) = true := by simp; omega
   have c3c : (l0.length == l1.length) = false := by simp; omega
   clear h
   go_enter Try.func22, Try.ntmps22
   go_wp2
   go_ret
   exact ⟨rfl, Below.refl _ _⟩
end Go.Proofs.Ytfnhjaiioojbkaa.Q
end
section
namespace Go.Proofs.Ytfnhjaiioojbkaa.Q
open Go.RowKit Go.Proofs.YtfnhjaiioojbkaaW.PrintWords
set_option linter.unusedVariables false
set_option linter.unusedSimpArgs false
def pB (f0 f1 : Int) (L : Nat) (T : Bool) : Bool := (decide (1 ≤ f1) && decide (0 ≤ f0) && decide (f0 ≤ 10) && decide (f1 ≤ 10 - f0) && decide (L = 0)) || (decide (f0 = 0) && decide (f1 = 0) && decide (0 < L) && T)
def pieceB (x : Dl) : Bool := pB x.f0 x.f1 x.f2.length (textB x.f2)
theorem textB_nil {l : List ByteArray} (h : l.length = 0) : textB l = true := by
  rw [List.eq_nil_of_length_eq_zero h]
  rfl
theorem pB_good {f0 f1 : Int} {L : Nat} {T bad : Bool} (hbad : bad = (!(decide (0 ≤ f0) && decide (f0 ≤ 10) && (decide (0 ≤ f1) && decide (f1 ≤ 10 - f0)) && T)))
    (c1 : bad = false) (c2 : ¬ ((decide (f1 > 0)) == (decide ((L : Int) > 0))) = true) (c3 : f1 = 0 → f0 = 0) : pB f0 f1 L T = true := by
  subst hbad
  by_cases a : f1 > 0 <;> by_cases b : (L : Int) > 0 <;> cases T <;> simp [a, b] at c1 c2 <;> simp [pB] <;> omega
theorem pB_bad {f0 f1 : Int} {L : Nat} {T bad : Bool} (hT : L = 0 → T = true) (hbad : bad = (!(decide (0 ≤ f0) && decide (f0 ≤ 10) && (decide (0 ≤ f1) && decide (f1 ≤ 10 - f0)) && T)))
    (hb : bad = true ∨ ((decide (f1 > 0)) == (decide ((L : Int) > 0))) = true ∨ (f1 = 0 ∧ f0 ≠ 0)) : pB f0 f1 L T = false := by
  subst hbad
  rw [Bool.eq_false_iff]
  intro h
  simp only [pB, Bool.or_eq_true, Bool.and_eq_true, decide_eq_true_eq] at h
  rcases h with ⟨⟨⟨⟨h1, h2⟩, h3⟩, h4⟩, h5⟩ | ⟨⟨⟨h1, h2⟩, h3⟩, h4⟩
  · have ht := hT h5
    rcases hb with hb | hb | hb
    · rw [ht, decide_eq_true h2, decide_eq_true h3, decide_eq_true h4, decide_eq_true (show 0 ≤ f1 by omega)] at hb
      cases hb
    · rw [decide_eq_true (show f1 > 0 by omega), decide_eq_false (show ¬ (L : Int) > 0 by omega)] at hb
      cases hb
    · omega
  · subst h1; subst h2; subst h4
    rcases hb with hb | hb | hb
    · simp at hb
    · rw [decide_eq_false (show ¬ (0 : Int) > 0 by omega), decide_eq_true (show (L : Int) > 0 by omega)] at hb
      cases hb
    · exact hb.2 rfl
def deltaB (d : List Dl) : Bool := decide (d.length ≤ 10) && d.all pieceB
theorem within_eq (a b c : Int) : impl_within.f a b c = some (decide (b ≤ a) && decide (a ≤ c)) := by
  unfold impl_within.f
  by_cases h : b ≤ a
  · rw [if_pos h]; simp [h]
  · rw [if_neg h]; simp [h]
theorem in_eq (a b c : Int) : spec_l1In.f a b c = some (decide (b ≤ a) && decide (a ≤ c)) := by
  unfold spec_l1In.f
  by_cases h : b ≤ a
  · rw [if_pos h]; simp [h]
  · rw [if_neg h]; simp [h]
theorem implPiece_ev (k0 k1 : Int) (l : List ByteArray) (hl : Sm l) : Ev (fun k => impl_DeltaOk_1.f k k0 k1 l) (!pieceB ⟨k0, k1, l⟩) := by
  have hT := implText_ev l hl
  unfold impl_DeltaOk_1.f
  by_cases h0 : 0 ≤ k0 ∧ k0 ≤ 10
  · have hw : wrap64 (10 - k0) = 10 - k0 := w64 (by omega) (by omega)
    simp only [within_eq, Option.bind_some, hw]
    repeat' first
      | (refine Ev.ite (fun _ => ?_) (fun _ => ?_))
      | (refine Ev.bind hT ?_)
    all_goals (refine EvT (Ev.now _) ?_; clear hT hl; show _ = !pB k0 k1 l.length (textB l); generalize textB l = T at *; generalize l.length = L at *; cases T <;> simp_all [pB] <;> omega)
  · have hn : (decide (0 ≤ k0) && decide (k0 ≤ 10)) = false := by rw [Bool.eq_false_iff]; simpa using h0
    simp only [within_eq, Option.bind_some, hn]
    repeat' first
      | (refine Ev.negf (show ¬ (false = true) by decide) ?_)
      | (refine Ev.ite (fun _ => ?_) (fun _ => ?_))
      | (refine Ev.bind hT ?_)
    all_goals (refine EvT (Ev.now _) ?_; clear hT hl; show _ = !pB k0 k1 l.length (textB l); generalize textB l = T at *; generalize l.length = L at *; cases T <;> simp_all [pB] <;> omega)
/-- Pieces whose loops are not long. -/
def SmD (d : List Dl) : Prop := d.length ≤ 100000 ∧ ∀ x ∈ d, Sm x.f2
theorem implOk_ev (d : List Dl) (hd : SmD d) : Ev (fun k => impl_DeltaOk.f k d) (deltaB d) := by
  unfold impl_DeltaOk.f
  by_cases c : d.length ≤ 10
  · refine Ev.posf c (EvT (Ev.mapf _ (anyF_ev impl_DeltaOk.p (fun x => !pieceB x) d (fun x hx => ?_))) ?_)
    · exact implPiece_ev x.f0 x.f1 x.f2 (hd.2 x hx)
    · rw [deltaB, decide_eq_true c, Bool.true_and, ← List.not_all_eq_any_not]
      simp
  · exact Ev.negf c (EvT (Ev.now _) (by simp [deltaB]; omega))
theorem specOk1_ev (d : List Dl) (hd : SmD d) (i : Nat) (hi : i < d.length) (bad : Bool) (r : Bool)
    (hg : (bad = false → ¬ ((decide (d[i].f1 > 0)) == (decide (((d[i].f2).length : Int) > 0))) = true → (d[i].f1 = 0 → d[i].f0 = 0) → Ev (fun k => spec_l13Ok.l0 k d ((i + 1 : Nat) : Int)) r))
    (hb : bad = true ∨ ((decide (d[i].f1 > 0)) == (decide (((d[i].f2).length : Int) > 0))) = true ∨ (d[i].f1 = 0 ∧ d[i].f0 ≠ 0) → r = false) :
    Ev (fun k => spec_l13Ok.j1 k d i bad) r := by
  refine Ev.step' ?_
  have hi2 := hd.1
  simp only [spec_l13Ok.j1, rdD hi, w64_succ i (by omega)]
  refine Ev.ite (fun c => EvT (Ev.now _) (hb (.inl c)).symm) (fun c => Ev.posf (by omega) (Ev.posf (by omega) (Ev.ite (fun c1 => EvT (Ev.now _) (hb (.inr (.inl c1))).symm) (fun c1 => Ev.ite (fun c2 => Ev.ite (fun c3 => hg (by simpa using c) c1 (fun _ => c3)) (fun c3 => EvT (Ev.now _) (hb (.inr (.inr ⟨c2, c3⟩))).symm)) (fun c2 => hg (by simpa using c) c1 (fun h => absurd h c2))))))
theorem specOk0_ev (d : List Dl) (hd : SmD d) : ∀ (n i : Nat), i ≤ d.length → d.length - i = n → Ev (fun k => spec_l13Ok.l0 k d i) ((d.drop i).all pieceB && decide (d.length ≤ 10))
  | 0, i, hi, hn => by
    refine Ev.step' ?_
    simp only [spec_l13Ok.l0]
    rw [List.drop_eq_nil_of_le (by omega)]
    exact Ev.negf (by omega) (EvT (Ev.now _) (by simp; omega))
  | n + 1, i, hi, hn => by
    have h : i < d.length := by omega
    have hT := specText_ev _ (hd.2 _ (List.getElem_mem h))
    have ih := specOk0_ev d hd n (i + 1) (by omega) (by omega)
    rw [drop_all pieceB d i h]
    refine Ev.step' ?_
    simp only [spec_l13Ok.l0, rdD h, in_eq, Option.bind_some]
    refine Ev.posf (by omega) (Ev.posf (by omega) ?_)
    generalize (d.drop (i + 1)).all pieceB = q at ih
    have key : ∀ bad : Bool, (bad = (!(decide (0 ≤ d[i].f0) && decide (d[i].f0 ≤ 10) && (decide (0 ≤ d[i].f1) && decide (d[i].f1 ≤ 10 - d[i].f0)) && textB d[i].f2))) → Ev (fun k => spec_l13Ok.j1 k d i bad) (pieceB d[i] && q && decide (d.length ≤ 10)) := by
      intro bad hbad
      refine specOk1_ev d hd i h bad _ (fun c1 c2 c3 => ?_) (fun hb => ?_)
      · rw [show pieceB d[i] = true from pB_good hbad c1 c2 c3, Bool.true_and]
        exact ih
      · rw [show pieceB d[i] = false from pB_bad textB_nil hbad hb]; rfl
    by_cases h0 : 0 ≤ d[i].f0 ∧ d[i].f0 ≤ 10
    · have hw : wrap64 (10 - d[i].f0) = 10 - d[i].f0 := w64 (by omega) (by omega)
      simp only [hw]
      refine Ev.posf (by simpa using h0) (Ev.ite (fun c => Ev.bind hT (key _ ?_)) (fun c => key _ ?_))
      · simp at c; simp [h0, c]
      · rw [Bool.eq_false_iff.mpr c]; simp
    · exact Ev.negf (by simpa using h0) (key _ (by rw [show (decide (0 ≤ d[i].f0) && decide (d[i].f0 ≤ 10)) = false by rw [Bool.eq_false_iff]; simpa using h0]; simp))
theorem specOk_ev (d : List Dl) (hd : SmD d) : Ev (fun k => spec_l13Ok.f k d) (deltaB d) := by
  unfold spec_l13Ok.f
  exact EvT (specOk0_ev d hd _ 0 (by omega) rfl) (by simp [deltaB, Bool.and_comm])
theorem specDeltaOk_ev (d : List Dl) (hd : SmD d) : Ev (fun k => spec_DeltaOk.f k d) (deltaB d) := by
  unfold spec_DeltaOk.f
  exact Ev.bind (specOk_ev d hd) (Ev.now _)
end Go.Proofs.Ytfnhjaiioojbkaa.Q
end
section
namespace Go.Proofs.Ytfnhjaiioojbkaa.Q
open Go.RowKit Go.Proofs.YtfnhjaiioojbkaaW.PrintWords
set_option linter.unusedVariables false
set_option linter.unusedSimpArgs false
def doGo (base : Tx) : List Dl → Tx → Option Tx
  | [], acc => some acc
  | x :: d, acc => if x.f0 + x.f1 > base.length then none else doGo base d (acc ++ seg base x)
def fin : Option Tx → Tx × Bool
  | some x => if textB x = true then (x, true) else ([], false)
  | none => ([], false)
def doB (base : Tx) (d : List Dl) : Tx × Bool := if textB base = true ∧ deltaB d = true then fin (doGo base d []) else ([], false)
theorem textB_len {l : Tx} (h : textB l = true) : l.length ≤ 10 := by
  simp only [textB, Bool.and_eq_true, decide_eq_true_eq] at h
  exact h.1
theorem textB_size {l : Tx} (h : textB l = true) : ∀ s ∈ l, s.size ≤ 12 := by
  simp only [textB, Bool.and_eq_true, List.all_eq_true] at h
  intro s hs
  have := h.2 s hs
  simp only [lineB, Bool.and_eq_true, decide_eq_true_eq] at this
  exact this.2
theorem textB_Sm {l : Tx} (h : textB l = true) : Sm l := ⟨by have := textB_len h; omega, fun s hs => by have := textB_size h s hs; omega⟩
/-- What an ok piece is like. -/
theorem piece_ok {x : Dl} (h : pieceB x = true) : 0 ≤ x.f0 ∧ 0 ≤ x.f1 ∧ x.f0 + x.f1 ≤ 10 ∧ x.f2.length ≤ 10 ∧ ∀ s ∈ x.f2, s.size ≤ 12 := by
  simp only [pieceB, pB, Bool.or_eq_true, Bool.and_eq_true, decide_eq_true_eq] at h
  rcases h with ⟨⟨⟨⟨h1, h2⟩, h3⟩, h4⟩, h5⟩ | ⟨⟨⟨h1, h2⟩, h3⟩, h4⟩
  · rw [List.eq_nil_of_length_eq_zero h5]
    exact ⟨by omega, by omega, by omega, by simp, by simp⟩
  · exact ⟨by omega, by omega, by omega, textB_len h4, textB_size h4⟩
theorem seg_in {base : Tx} {x : Dl} (hb : textB base = true) (h : pieceB x = true) : (seg base x).length ≤ 20 ∧ ∀ s ∈ seg base x, s.size ≤ 12 := by
  have hb1 := textB_len hb
  obtain ⟨_, _, _, h4, h5⟩ := piece_ok h
  refine ⟨by simp [seg]; omega, fun s hs => ?_⟩
  rcases List.mem_append.mp hs with hs | hs
  · exact textB_size hb s (List.mem_of_mem_take (List.mem_of_mem_drop hs))
  · exact h5 s hs
theorem implDo_ev {base : Tx} (hb : textB base = true) (d : List Dl) (hd : ∀ x ∈ d, pieceB x = true) (hl : d.length ≤ 1000) : ∀ (n i : Nat) (acc : Tx), i ≤ d.length → d.length - i = n → acc.length ≤ 20 * i → (∀ s ∈ acc, s.size ≤ 12) →
    Ev (fun k => impl_DeltaDo.l0 k base acc d d.length i) (fin (doGo base (d.drop i) acc))
  | 0, i, acc, hi, hn, ha, hz => by
    rw [List.drop_eq_nil_of_le (by omega)]
    have hT := implText_ev acc ⟨by omega, fun s hs => by have := hz s hs; omega⟩
    refine Ev.step' ?_
    simp only [impl_DeltaDo.l0]
    refine Ev.negf (by omega) (Ev.bind hT (Ev.ite (fun c => EvT (Ev.now _) ?_) (fun c => EvT (Ev.now _) ?_)))
    · simp [doGo, fin, c]
    · simp [doGo, fin, c]
  | n + 1, i, acc, hi, hn, ha, hz => by
    have h : i < d.length := by omega
    obtain ⟨p1, p2, p3, p4, p5⟩ := piece_ok (hd _ (List.getElem_mem h))
    have hb1 := textB_len hb
    obtain ⟨s1, s2⟩ := seg_in hb (hd _ (List.getElem_mem h))
    rw [List.drop_eq_getElem_cons h, doGo]
    have ih := implDo_ev hb d hd hl n (i + 1) (acc ++ seg base d[i]) (by omega) (by omega) (by simp; omega) (fun s hs => by rcases List.mem_append.mp hs with hs | hs; exact hz s hs; exact s2 s hs)
    refine Ev.step' ?_
    simp only [impl_DeltaDo.l0, rdD h, w64 (x := d[i].f0 + d[i].f1) (by omega) (by omega), w64_succ i (by omega)]
    refine Ev.posf (by omega) (Ev.posf (by omega) (Ev.posf (by omega) ?_))
    by_cases c : d[i].f0 + d[i].f1 > base.length
    · rw [if_pos c]
      exact Ev.posf c (Ev.now _)
    · rw [if_neg c]
      refine Ev.negf c (Ev.posf p1 (Ev.posf (by omega) (Ev.posf (by omega) (Ev.posf (by simp; omega) (Ev.somef (Ev.posf (by simp; omega) ?_))))))
      rw [List.append_assoc]
      exact ih
theorem specDo_ev {base : Tx} (hb : textB base = true) (d : List Dl) (hd : ∀ x ∈ d, pieceB x = true) (hl : d.length ≤ 1000) : ∀ (n i : Nat) (acc : Tx), i ≤ d.length → d.length - i = n → acc.length ≤ 20 * i → (∀ s ∈ acc, s.size ≤ 12) →
    Ev (fun k => spec_l13Do.l0 k base d acc i) (fin (doGo base (d.drop i) acc))
  | 0, i, acc, hi, hn, ha, hz => by
    rw [List.drop_eq_nil_of_le (by omega)]
    have hT := specText_ev acc ⟨by omega, fun s hs => by have := hz s hs; omega⟩
    refine Ev.step' ?_
    simp only [spec_l13Do.l0]
    refine Ev.negf (by omega) (Ev.bind hT (Ev.ite (fun c => EvT (Ev.now _) ?_) (fun c => EvT (Ev.now _) ?_)))
    · simp [doGo, fin, c]
    · simp [doGo, fin, c]
  | n + 1, i, acc, hi, hn, ha, hz => by
    have h : i < d.length := by omega
    obtain ⟨p1, p2, p3, p4, p5⟩ := piece_ok (hd _ (List.getElem_mem h))
    have hb1 := textB_len hb
    obtain ⟨s1, s2⟩ := seg_in hb (hd _ (List.getElem_mem h))
    rw [List.drop_eq_getElem_cons h, doGo]
    have ih := specDo_ev hb d hd hl n (i + 1) (acc ++ seg base d[i]) (by omega) (by omega) (by simp; omega) (fun s hs => by rcases List.mem_append.mp hs with hs | hs; exact hz s hs; exact s2 s hs)
    refine Ev.step' ?_
    simp only [spec_l13Do.l0, rdD h, w64 (x := d[i].f0 + d[i].f1) (by omega) (by omega), w64_succ i (by omega)]
    refine Ev.posf (by omega) (Ev.posf (by omega) ?_)
    by_cases c : d[i].f0 + d[i].f1 > base.length
    · rw [if_pos c]
      exact Ev.posf c (Ev.now _)
    · rw [if_neg c]
      refine Ev.negf c (Ev.posf p1 (Ev.posf (by omega) (Ev.posf (by omega) (Ev.posf (by simp; omega) (Ev.somef (Ev.posf (by simp; omega) ?_))))))
      rw [List.append_assoc]
      exact ih
theorem deltaB_len {d : List Dl} (h : deltaB d = true) : d.length ≤ 10 ∧ ∀ x ∈ d, pieceB x = true := by
  simp only [deltaB, Bool.and_eq_true, decide_eq_true_eq, List.all_eq_true] at h
  exact h
theorem implDeltaDo_ev (base : Tx) (d : List Dl) (hb : Sm base) (hd : SmD d) : Ev (fun k => impl_DeltaDo.f k base d) (doB base d) := by
  unfold impl_DeltaDo.f
  have bad : ∀ q : Bool, q = true → Ev (fun k => impl_DeltaDo.j0 k base d q) (([] : Tx), false) := fun q hq => by
    subst hq
    refine Ev.step' ?_
    simp only [impl_DeltaDo.j0]
    exact Ev.posf trivial (Ev.now _)
  refine Ev.bind (implText_ev base hb) (Ev.ite (fun c => Ev.bind (implOk_ev d hd) ?_) (fun c => EvT (bad _ rfl) (by rw [doB, if_neg (fun h => c h.1)])))
  cases hk : deltaB d with
  | false => exact EvT (bad _ rfl) (by rw [doB, if_neg (fun h => by rw [hk] at h; cases h.2)])
  | true =>
    refine Ev.step' ?_
    simp only [impl_DeltaDo.j0]
    obtain ⟨h1, h2⟩ := deltaB_len hk
    refine Ev.negf (by simp) (EvT (implDo_ev c d h2 (by omega) _ 0 [] (by omega) rfl (by simp) (by simp)) ?_)
    rw [doB, if_pos ⟨c, hk⟩, List.drop_zero]
theorem specDeltaDo_ev (base : Tx) (d : List Dl) (hb : Sm base) (hd : SmD d) : Ev (fun k => spec_DeltaDo.f k base d) (doB base d) := by
  unfold spec_DeltaDo.f spec_l13Do.f
  refine Ev.bind (specText_ev base hb) (Ev.ite (fun c => Ev.bind (specOk_ev d hd) (Ev.ite (fun c2 => ?_) (fun c2 => EvT (Ev.now _) (by rw [doB, if_neg (fun h => c2 h.2)])))) (fun c => EvT (Ev.now _) (by rw [doB, if_neg (fun h => c h.1)])))
  obtain ⟨h1, h2⟩ := deltaB_len c2
  refine Ev.bind (specDo_ev c d h2 (by omega) _ 0 [] (by omega) rfl (by simp) (by simp)) (EvT (Ev.now _) ?_)
  rw [doB, if_pos ⟨c, c2⟩, List.drop_zero]
def ofB (a b : Tx) : List Dl := if textB a = true ∧ textB b = true then dOf a b else []
theorem implDeltaOf_ev (a b : Tx) (ha : Sm a) (hb : Sm b) : Ev (fun k => impl_DeltaOf.f k a b) (ofB a b) := by
  unfold impl_DeltaOf.f
  refine Ev.bind (implText_ev a ha) (Ev.ite (fun c => Ev.bind (implText_ev b hb) (Ev.ite (fun c2 => ?_) (fun c2 => EvT (Ev.now _) (by rw [ofB, if_neg (fun h => c2 h.2)])))) (fun c => EvT (Ev.now _) (by rw [ofB, if_neg (fun h => c h.1)])))
  have l1 := textB_len c
  have l2 := textB_len c2
  exact Ev.bind (implOf_ev (by omega) (by omega)) (EvT (Ev.now _) (by rw [ofB, if_pos ⟨c, c2⟩]))
theorem specDeltaOf_ev (a b : Tx) (ha : Sm a) (hb : Sm b) : Ev (fun k => spec_DeltaOf.f k a b) (ofB a b) := by
  unfold spec_DeltaOf.f
  refine Ev.bind (specText_ev a ha) (Ev.ite (fun c => Ev.bind (specText_ev b hb) (Ev.ite (fun c2 => ?_) (fun c2 => EvT (Ev.now _) (by rw [ofB, if_neg (fun h => c2 h.2)])))) (fun c => EvT (Ev.now _) (by rw [ofB, if_neg (fun h => c h.1)])))
  have l1 := textB_len c
  have l2 := textB_len c2
  exact Ev.bind (specOf_ev (by omega) (by omega)) (EvT (Ev.now _) (by rw [ofB, if_pos ⟨c, c2⟩]))
theorem smDelta0_refl (d : List Dl) (hd : SmD d) : ∀ (n i : Nat), i ≤ d.length → d.length - i = n → Ev (fun k => laws_smDelta.l0 k d d i) true
  | 0, i, hi, hn => by
    refine Ev.step' ?_
    simp only [laws_smDelta.l0]
    exact Ev.negf (by omega) (Ev.now _)
  | n + 1, i, hi, hn => by
    have h : i < d.length := by omega
    have h2 := hd.1
    refine Ev.step' ?_
    simp only [laws_smDelta.l0, rdD h, w64_succ i (by omega)]
    exact Ev.posf (by omega) (Ev.posf (by omega) (Ev.posf (by omega) (Ev.posf trivial (Ev.posf trivial (Ev.bind (smTexts_refl _ (by have := (hd.2 _ (List.getElem_mem h)).1; omega)) (Ev.posf rfl (smDelta0_refl d hd n (i + 1) (by omega) (by omega))))))))
theorem smDelta_refl (d : List Dl) (hd : SmD d) : Ev (fun k => laws_smDelta.f k d d) true := by
  unfold laws_smDelta.f
  exact Ev.posf rfl (smDelta0_refl d hd _ 0 (by omega) rfl)
/-- A text's delta is ok, and not long. -/
theorem dOf_ok {a b : Tx} (ha : textB a = true) (hb : textB b = true) : deltaB (dOf a b) = true := by
  obtain ⟨h1, h2⟩ := dOf_right a b
  have hla := textB_len ha
  have hlb := textB_len hb
  have hlen := ap_len h2
  rw [h1] at hlen
  simp only [deltaB, Bool.and_eq_true, decide_eq_true_eq, List.all_eq_true]
  refine ⟨by omega, fun x hx => ?_⟩
  have hx2 : ∀ s ∈ x.f2, lineB s = true := fun s hs => by
    have : s ∈ b := by rw [← h1]; exact mem_ap hx hs
    simp only [textB, Bool.and_eq_true, List.all_eq_true] at hb
    exact hb.2 s this
  have hx3 : x.f2.length ≤ b.length := by
    have : (seg a x).length ≤ (ap a (dOf a b)).length := by
      obtain ⟨p, q, e⟩ := List.append_of_mem hx
      rw [e]
      simp [ap]
      omega
    rw [h1] at this
    have := (piece_len (h2 x hx)).2.1
    omega
  rcases h2 x hx with ⟨g1, g2, g3, g4⟩ | ⟨g1, g2, g3⟩
  · simp [pieceB, pB, g4]
    exact ⟨⟨⟨g1, g2⟩, by omega⟩, by omega⟩
  · have : textB x.f2 = true := by
      simp only [textB, Bool.and_eq_true, decide_eq_true_eq, List.all_eq_true]
      exact ⟨by omega, hx2⟩
    simp [pieceB, pB, g1, g2, this]
    omega
theorem doGo_ap {base : Tx} : ∀ (d : List Dl) (acc : Tx), (∀ x ∈ d, Piece base x) → doGo base d acc = some (acc ++ ap base d)
  | [], acc, h => by simp [doGo, ap]
  | x :: d, acc, h => by
    have := (piece_len (h x List.mem_cons_self)).2.2.2.2
    rw [doGo, if_neg (by omega), doGo_ap d _ (fun y hy => h y (List.mem_cons_of_mem _ hy))]
    simp [ap]
theorem doB_of {a b : Tx} (ha : textB a = true) (hb : textB b = true) : doB a (dOf a b) = (b, true) := by
  obtain ⟨h1, h2⟩ := dOf_right a b
  rw [doB, if_pos ⟨ha, dOf_ok ha hb⟩, doGo_ap _ _ h2, h1]
  simp [fin, hb]
/-- A longer base makes the same. -/
theorem doGo_more {base more : Tx} : ∀ (d : List Dl) (acc x : Tx), (∀ y ∈ d, pieceB y = true) → doGo base d acc = some x → doGo (base ++ more) d acc = some x
  | [], acc, x, h, e => e
  | y :: d, acc, x, h, e => by
    obtain ⟨p1, p2, _⟩ := piece_ok (h y List.mem_cons_self)
    unfold doGo at e ⊢
    by_cases c : y.f0 + y.f1 > base.length
    · rw [if_pos c] at e; cases e
    · rw [if_neg c] at e
      rw [if_neg (by simp; omega)]
      have : seg (base ++ more) y = seg base y := by
        unfold seg
        rw [List.take_append_of_le_length (by omega)]
      rw [this]
      exact doGo_more d _ x (fun z hz => h z (List.mem_cons_of_mem _ hz)) e
end Go.Proofs.Ytfnhjaiioojbkaa.Q
end
section
namespace Go.Proofs.Ytfnhjaiioojbkaa.Q
open Go.RowKit Go.Proofs.YtfnhjaiioojbkaaW.PrintWords Go.Proofs.YtfnhjaiioojbkaaW.PrintLast Go.Proofs.YtfnhjaiioojbkaaW.PrintMore
attribute [local go_sem] max2_int min2_int max_two min_two max_three min_three max_four min_four   -- for this text's walks alone
set_option linter.unusedVariables false
set_option linter.unusedSimpArgs false
def spec_l30Two.f (k : Nat) (l0 : List Int) : Option (List ByteArray × List ByteArray) := (spec_l30Open.f l0).bind fun bt305 => ((spec_l30AnyText.f k bt305.1 bt305.2).bind fun bt308 => ((spec_l30Rd_pick.f k bt305.1 bt308.2 4).bind fun bt312 => (if bt312.1 = 0 then ((spec_l30AnyText.f k bt305.1 bt312.2).bind fun bt314 => (some (bt308.1, bt314.1))) else ((spec_l30Turn.f k bt305.1 bt312.2 bt308.1).bind fun bt318 => (some (bt308.1, bt318.1))))))
theorem spec_l30Two.mono : ∀ a0 k, LeO (spec_l30Two.f k a0) (spec_l30Two.f (k + 1) a0) := by
 intro a0 k
 unfold spec_l30Two.f
 repeat' first
  | (with_reducible exact spec_l30AnyText.mono _ _ _)
  | (with_reducible exact spec_l30Rd_pick.mono _ _ _ _)
  | (with_reducible exact spec_l30Turn.mono _ _ _ _)
  | (with_reducible exact LeO.refl _)
  | (with_reducible exact LeO.none _)
  | (with_reducible refine LeO.ite ?_ ?_)
  | (with_reducible refine LeO.bind ?_ (fun _ => ?_))
  | exact spec_l30AnyText.mono _ _ _
  | exact spec_l30Rd_pick.mono _ _ _ _
  | exact spec_l30Turn.mono _ _ _ _
  | exact LeO.none _
  | refine LeO.ite ?_ ?_
  | refine LeO.bind ?_ (fun _ => ?_)
set_option maxHeartbeats 8000000 in
set_option maxRecDepth 100000 in
theorem spec_l30Two.calls (k : Nat) (A0 : Option Addr) (c0 : Nat) (l0 : List Int) (r1 : List ByteArray) (r2 : List ByteArray) (w : World) (hr0 : Kd.C (Kd.int .u8) w A0 l0.length l0) (hc0 : l0.length ≤ c0) (h : spec_l30Two.f k l0 = some (r1, r2)) :
 Calls Try.prog 69 #[.slice A0 l0.length c0] w fun e w' => ∃ v0_ v1_ : Value, e = .returned (.tuple #[v0_, v1_]) ∧ Kd.R Kd.string 9 w' w.heap.size (fun k_ => some k_ ≠ (v1_ : Value).ownBlock) v0_ r1 ∧ Kd.R Kd.string 9 w' w.heap.size (fun k_ => some k_ ≠ (v0_ : Value).ownBlock) v1_ r2 ∧ Below w.heap.size w w' := by
 have HR0 := Aside0.mk hr0
 have HC0 := Aside0.mk hc0
 clear hr0 hc0
 have HB := Aside0.mk (Below.refl w.heap.size w)
 have H : ((spec_l30Open.f l0).bind fun bt305 => ((spec_l30AnyText.f k bt305.1 bt305.2).bind fun bt308 => ((spec_l30Rd_pick.f k bt305.1 bt308.2 4).bind fun bt312 => (if bt312.1 = 0 then ((spec_l30AnyText.f k bt305.1 bt312.2).bind fun bt314 => (some (bt308.1, bt314.1))) else ((spec_l30Turn.f k bt305.1 bt312.2 bt308.1).bind fun bt318 => (some (bt308.1, bt318.1))))))) = some (r1, r2) := h
 clear h
 replace H := Option.bind_eq_some_iff.mp H
 obtain ⟨⟨t305, t306⟩, A20, H⟩ := H
 replace H : ((spec_l30AnyText.f k t305 t306).bind fun bt308 => ((spec_l30Rd_pick.f k t305 bt308.2 4).bind fun bt312 => (if bt312.1 = 0 then ((spec_l30AnyText.f k t305 bt312.2).bind fun bt314 => (some (bt308.1, bt314.1))) else ((spec_l30Turn.f k t305 bt312.2 bt308.1).bind fun bt318 => (some (bt308.1, bt318.1)))))) = some (r1, r2) := H
 have A2 := Aside0.mk A20
 clear A20
 replace H := Option.bind_eq_some_iff.mp H
 obtain ⟨⟨t308, t311⟩, A30, H⟩ := H
 replace H : ((spec_l30Rd_pick.f k t305 t311 4).bind fun bt312 => (if bt312.1 = 0 then ((spec_l30AnyText.f k t305 bt312.2).bind fun bt314 => (some (t308, bt314.1))) else ((spec_l30Turn.f k t305 bt312.2 t308).bind fun bt318 => (some (t308, bt318.1))))) = some (r1, r2) := H
 have A3 := Aside0.mk A30
 clear A30
 replace H := Option.bind_eq_some_iff.mp H
 obtain ⟨⟨t312, t313⟩, A40, H⟩ := H
 replace H : (if t312 = 0 then ((spec_l30AnyText.f k t305 t313).bind fun bt314 => (some (t308, bt314.1))) else ((spec_l30Turn.f k t305 t313 t308).bind fun bt318 => (some (t308, bt318.1)))) = some (r1, r2) := H
 have A4 := Aside0.mk A40
 clear A40
 by_cases c5 : t312 = 0
 · rw [if_pos c5] at H
   have c5b0 : (t312 == 0) = true := beq_iff_eq.mpr c5
   have c5b1 : (t312 != 0) = false := bne_eq_false_iff_eq.mpr c5
   clear c5
   replace H := Option.bind_eq_some_iff.mp H
   obtain ⟨⟨t314, t317⟩, A60, H⟩ := H
   replace H : (some (t308, t314)) = some (r1, r2) := H
   have A6 := Aside0.mk A60
   clear A60
   simp only [Option.some.injEq, Prod.mk.injEq] at H
   obtain ⟨rfl, rfl⟩ := H
   go_enter Try.func69, Try.ntmps69
   go_wp2_with (first | ((with_reducible refine gate_callee (f := 78) rfl ?_); refine goesL_ (some 7) rfl rfl Try.func78 (by kernel_rfl) rfl #[.slice A0 l0.length c0] rfl (by (try simp only [List.map_toArray, List.map_cons, List.map_nil]); first | done | rfl | (simp only [List.length_drop, List.length_take]; rfl)) ?_; (with_reducible refine (spec_l30Open.calls _ _ l0 t305 t306 w _ ?side1 ?side2 ?side3 A2.out).mono ?_); (case side1 => repeat (first | (with_reducible first | exact HB.out | apply below_alloc | apply pw_below_drewN | apply below_drew1) | exact HB.out)); (case side2 => exact HR0.out); (case side3 => exact HC0.out); rintro e w7 ⟨g307, rfl, hi, hb, hb2⟩; refine ⟨_, rfl, ?_⟩; have n0_ := Aside0.mk (hb); have n1_ := Aside0.mk (hi); clear HB; have HB := n0_; have HI307 := n1_; clear n0_ n1_; (try clear hb); (try clear hb2); (try clear hk); (try clear hi)) | ((with_reducible refine gate_callee (f := 79) rfl ?_); refine goesL_ (some 9) rfl rfl Try.func79 (by kernel_rfl) rfl #[.pointer (some ⟨g307, 0, none⟩)] rfl (by (try simp only [List.map_toArray, List.map_cons, List.map_nil]); first | done | rfl | (simp only [List.length_drop, List.length_take]; rfl)) ?_; (with_reducible refine (spec_l30AnyText.calls k g307 t305 t306 t308 t311 w _ ?side1 ?side2 A3.out).mono ?_); (case side1 => repeat (first | (with_reducible first | exact HI307.out | apply IsS106.alloc | apply IsS106.drewN | apply IsS106.drew | apply IsS106.set_1) | exact HI307.out)); (case side2 => repeat (first | (with_reducible first | exact HB.out | apply below_alloc | apply pw_below_drewN | apply below_drew1 | refine below_set ?_ (IsS106.ge HI307.out)) | exact HB.out)); rintro e w8 ⟨v309, rfl, ho0, hi, hb, hk⟩; refine ⟨_, rfl, ?_⟩; have n0_ := Aside0.mk (Kd.R_lower ho0 (below_size (by repeat (first | (with_reducible first | exact HB.out | apply below_alloc | apply pw_below_drewN | apply below_drew1 | refine below_set ?_ (IsS106.ge HI307.out)) | exact HB.out)))); have n1_ := Aside0.mk (hb); have n2_ := Aside0.mk (hi); clear HB; clear HI307; have HO310 := n0_; have HB := n1_; have HI307 := n2_; clear n0_ n1_ n2_; (try clear hb); (try clear hb2); (try clear hk); (try clear hi); (try clear ho0)) | ((with_reducible refine gate_callee (f := 81) rfl ?_); refine goesL_ (some 11) rfl rfl Try.func81 (by kernel_rfl) rfl #[.pointer (some ⟨g307, 0, none⟩), .int .i64 4] rfl (by (try simp only [List.map_toArray, List.map_cons, List.map_nil]); first | done | rfl | (simp only [List.length_drop, List.length_take]; rfl)) ?_; (with_reducible refine (spec_l30Rd_pick.calls k g307 t305 t311 4 t312 t313 w _ ?side1 ?side2 A4.out).mono ?_); (case side1 => repeat (first | (with_reducible first | exact HI307.out | apply IsS106.alloc | apply IsS106.drewN | apply IsS106.drew | apply IsS106.set_1) | exact HI307.out)); (case side2 => repeat (first | (with_reducible first | exact HB.out | apply below_alloc | apply pw_below_drewN | apply below_drew1 | refine below_set ?_ (IsS106.ge HI307.out)) | exact HB.out)); rintro e w9 ⟨rfl, hi, hb, hk⟩; refine ⟨_, rfl, ?_⟩; have n0_ := Aside0.mk (Kd.R_mono (Kd.R_keep (IsS106.apart (show IsS106 w _ g307 t305 t311 from by repeat (first | (with_reducible first | exact HI307.out | apply IsS106.alloc | apply IsS106.drewN | apply IsS106.drew | apply IsS106.set_1) | exact HI307.out)) (by (with_reducible repeat (first | apply Kd.R_alloc | apply Kd.R_drewN | apply Kd.R_drew)); exact HO310.out) (by decide)) hk (fun _ h => h.2)) (fun _ h => h.1)); have n1_ := Aside0.mk (hb); have n2_ := Aside0.mk (hi); clear HO310; clear HB; clear HI307; have HO310 := n0_; have HB := n1_; have HI307 := n2_; clear n0_ n1_ n2_; (try clear hb); (try clear hb2); (try clear hk); (try clear hi)) | ((with_reducible refine gate_callee (f := 79) rfl ?_); refine goesL_ (some 15) rfl rfl Try.func79 (by kernel_rfl) rfl #[.pointer (some ⟨g307, 0, none⟩)] rfl (by (try simp only [List.map_toArray, List.map_cons, List.map_nil]); first | done | rfl | (simp only [List.length_drop, List.length_take]; rfl)) ?_; (with_reducible refine (spec_l30AnyText.calls k g307 t305 t313 t314 t317 w _ ?side1 ?side2 A6.out).mono ?_); (case side1 => repeat (first | (with_reducible first | exact HI307.out | apply IsS106.alloc | apply IsS106.drewN | apply IsS106.drew | apply IsS106.set_1) | exact HI307.out)); (case side2 => repeat (first | (with_reducible first | exact HB.out | apply below_alloc | apply pw_below_drewN | apply below_drew1 | refine below_set ?_ (IsS106.ge HI307.out)) | exact HB.out)); rintro e w10 ⟨v315, rfl, ho0, hi, hb, hk⟩; refine ⟨_, rfl, ?_⟩; have n0_ := Aside0.mk (Kd.R_mono (Kd.R_told (Kd.R_oldK (IsS106.apart (show IsS106 w _ g307 t305 t313 from by repeat (first | (with_reducible first | exact HI307.out | apply IsS106.alloc | apply IsS106.drewN | apply IsS106.drew | apply IsS106.set_1) | exact HI307.out)) (by (with_reducible repeat (first | apply Kd.R_alloc | apply Kd.R_drewN | apply Kd.R_drew)); exact HO310.out) (by decide)) hk) (Kd.R_base ho0)) (fun _ h_ => h_.1)); have n1_ := Aside0.mk (Kd.R_lower (Kd.R_new' ho0 (Kd.R_lt (by (with_reducible repeat (first | apply Kd.R_alloc | apply Kd.R_drewN | apply Kd.R_drew)); exact HO310.out))) (below_size (by repeat (first | (with_reducible first | exact HB.out | apply below_alloc | apply pw_below_drewN | apply below_drew1 | refine below_set ?_ (IsS106.ge HI307.out)) | exact HB.out)))); have n2_ := Aside0.mk (hb); have n3_ := Aside0.mk (hi); clear HO310; clear HB; clear HI307; have HO310 := n0_; have HO316 := n1_; have HB := n2_; have HI307 := n3_; clear n0_ n1_ n2_ n3_; (try clear hb); (try clear hb2); (try clear hk); (try clear hi); (try clear ho0)))
   go_ret2
   exact ⟨_, _, by first | rfl | (simp [errW_none, errW_some] <;> rfl) | (simp [*, errW_none, errW_some] <;> rfl), by (with_reducible repeat (first | apply Kd.R_alloc | apply Kd.R_drewN | apply Kd.R_drew)); exact Kd.R_mono HO310.out (fun _ hk => hk.2), by (with_reducible repeat (first | apply Kd.R_alloc | apply Kd.R_drewN | apply Kd.R_drew)); exact Kd.R_mono HO316.out (fun _ hk => hk.2), by repeat (first | (with_reducible first | exact HB.out | apply below_alloc | apply pw_below_drewN | apply below_drew1 | refine below_set ?_ (IsS106.ge HI307.out)) | exact HB.out)⟩
 · rw [if_neg c5] at H
   have c5b0 : (t312 == 0) = false := beq_eq_false_iff_ne.mpr c5
   have c5b1 : (t312 != 0) = true := bne_iff_ne.mpr c5
   replace H := Option.bind_eq_some_iff.mp H
   obtain ⟨⟨t318, t321⟩, A110, H⟩ := H
   replace H : (some (t308, t318)) = some (r1, r2) := H
   have A11 := Aside0.mk A110
   clear A110
   simp only [Option.some.injEq, Prod.mk.injEq] at H
   obtain ⟨rfl, rfl⟩ := H
   go_enter Try.func69, Try.ntmps69
   go_wp2_with (first | ((with_reducible refine gate_callee (f := 78) rfl ?_); refine goesL_ (some 7) rfl rfl Try.func78 (by kernel_rfl) rfl #[.slice A0 l0.length c0] rfl (by (try simp only [List.map_toArray, List.map_cons, List.map_nil]); first | done | rfl | (simp only [List.length_drop, List.length_take]; rfl)) ?_; (with_reducible refine (spec_l30Open.calls _ _ l0 t305 t306 w _ ?side1 ?side2 ?side3 A2.out).mono ?_); (case side1 => repeat (first | (with_reducible first | exact HB.out | apply below_alloc | apply pw_below_drewN | apply below_drew1) | exact HB.out)); (case side2 => exact HR0.out); (case side3 => exact HC0.out); rintro e w12 ⟨g307, rfl, hi, hb, hb2⟩; refine ⟨_, rfl, ?_⟩; have n0_ := Aside0.mk (hb); have n1_ := Aside0.mk (hi); clear HB; have HB := n0_; have HI307 := n1_; clear n0_ n1_; (try clear hb); (try clear hb2); (try clear hk); (try clear hi)) | ((with_reducible refine gate_callee (f := 79) rfl ?_); refine goesL_ (some 9) rfl rfl Try.func79 (by kernel_rfl) rfl #[.pointer (some ⟨g307, 0, none⟩)] rfl (by (try simp only [List.map_toArray, List.map_cons, List.map_nil]); first | done | rfl | (simp only [List.length_drop, List.length_take]; rfl)) ?_; (with_reducible refine (spec_l30AnyText.calls k g307 t305 t306 t308 t311 w _ ?side1 ?side2 A3.out).mono ?_); (case side1 => repeat (first | (with_reducible first | exact HI307.out | apply IsS106.alloc | apply IsS106.drewN | apply IsS106.drew | apply IsS106.set_1) | exact HI307.out)); (case side2 => repeat (first | (with_reducible first | exact HB.out | apply below_alloc | apply pw_below_drewN | apply below_drew1 | refine below_set ?_ (IsS106.ge HI307.out)) | exact HB.out)); rintro e w13 ⟨v309, rfl, ho0, hi, hb, hk⟩; refine ⟨_, rfl, ?_⟩; have n0_ := Aside0.mk (Kd.R_lower ho0 (below_size (by repeat (first | (with_reducible first | exact HB.out | apply below_alloc | apply pw_below_drewN | apply below_drew1 | refine below_set ?_ (IsS106.ge HI307.out)) | exact HB.out)))); have n1_ := Aside0.mk (hb); have n2_ := Aside0.mk (hi); clear HB; clear HI307; have HO310 := n0_; have HB := n1_; have HI307 := n2_; clear n0_ n1_ n2_; (try clear hb); (try clear hb2); (try clear hk); (try clear hi); (try clear ho0)) | ((with_reducible refine gate_callee (f := 81) rfl ?_); refine goesL_ (some 11) rfl rfl Try.func81 (by kernel_rfl) rfl #[.pointer (some ⟨g307, 0, none⟩), .int .i64 4] rfl (by (try simp only [List.map_toArray, List.map_cons, List.map_nil]); first | done | rfl | (simp only [List.length_drop, List.length_take]; rfl)) ?_; (with_reducible refine (spec_l30Rd_pick.calls k g307 t305 t311 4 t312 t313 w _ ?side1 ?side2 A4.out).mono ?_); (case side1 => repeat (first | (with_reducible first | exact HI307.out | apply IsS106.alloc | apply IsS106.drewN | apply IsS106.drew | apply IsS106.set_1) | exact HI307.out)); (case side2 => repeat (first | (with_reducible first | exact HB.out | apply below_alloc | apply pw_below_drewN | apply below_drew1 | refine below_set ?_ (IsS106.ge HI307.out)) | exact HB.out)); rintro e w14 ⟨rfl, hi, hb, hk⟩; refine ⟨_, rfl, ?_⟩; have n0_ := Aside0.mk (Kd.R_mono (Kd.R_keep (IsS106.apart (show IsS106 w _ g307 t305 t311 from by repeat (first | (with_reducible first | exact HI307.out | apply IsS106.alloc | apply IsS106.drewN | apply IsS106.drew | apply IsS106.set_1) | exact HI307.out)) (by (with_reducible repeat (first | apply Kd.R_alloc | apply Kd.R_drewN | apply Kd.R_drew)); exact HO310.out) (by decide)) hk (fun _ h => h.2)) (fun _ h => h.1)); have n1_ := Aside0.mk (hb); have n2_ := Aside0.mk (hi); clear HO310; clear HB; clear HI307; have HO310 := n0_; have HB := n1_; have HI307 := n2_; clear n0_ n1_ n2_; (try clear hb); (try clear hb2); (try clear hk); (try clear hi); obtain ⟨Ao15, co15, eo15⟩ := Kd.R_slice HO310.out; subst eo15) | ((with_reducible refine gate_callee (f := 82) rfl ?_); refine goesL_ (some 19) rfl rfl Try.func82 (by kernel_rfl) rfl #[.pointer (some ⟨g307, 0, none⟩), .slice Ao15 t308.length co15] rfl (by (try simp only [List.map_toArray, List.map_cons, List.map_nil]); first | done | rfl | (simp only [List.length_drop, List.length_take]; rfl)) ?_; (with_reducible refine (spec_l30Turn.calls k g307 t305 t313 _ _ t308 t318 t321 w _ ?side1 ?side2 ?side3 ?side4 ?side5 A11.out).mono ?_); (case side1 => repeat (first | (with_reducible first | exact HI307.out | apply IsS106.alloc | apply IsS106.drewN | apply IsS106.drew | apply IsS106.set_1) | exact HI307.out)); (case side2 => repeat (first | (with_reducible first | exact HB.out | apply below_alloc | apply pw_below_drewN | apply below_drew1 | refine below_set ?_ (IsS106.ge HI307.out)) | exact HB.out)); (case side3 => repeat (first | exact (Kd.R_reads' HO310.out).2.2 | (with_reducible refine Kd.C_alloc ?_ _) | (with_reducible refine Kd.C_drewN ?_ _) | (with_reducible refine Kd.C_drew ?_))); (case side4 => exact (Kd.R_reads' HO310.out).2.1); (case side5 => exact far_slice (IsS106.own_ne HI307.out HO310.out (by decide))); rintro e w16 ⟨v319, rfl, ho0, hi, hb, hk⟩; refine ⟨_, rfl, ?_⟩; have n0_ := Aside0.mk (Kd.R_mono (Kd.R_told (Kd.R_oldK (IsS106.apart (show IsS106 w _ g307 t305 t313 from by repeat (first | (with_reducible first | exact HI307.out | apply IsS106.alloc | apply IsS106.drewN | apply IsS106.drew | apply IsS106.set_1) | exact HI307.out)) (by (with_reducible repeat (first | apply Kd.R_alloc | apply Kd.R_drewN | apply Kd.R_drew)); exact HO310.out) (by decide)) hk) (Kd.R_base ho0)) (fun _ h_ => h_.1)); have n1_ := Aside0.mk (Kd.R_lower (Kd.R_new' ho0 (Kd.R_lt (by (with_reducible repeat (first | apply Kd.R_alloc | apply Kd.R_drewN | apply Kd.R_drew)); exact HO310.out))) (below_size (by repeat (first | (with_reducible first | exact HB.out | apply below_alloc | apply pw_below_drewN | apply below_drew1 | refine below_set ?_ (IsS106.ge HI307.out)) | exact HB.out)))); have n2_ := Aside0.mk (hb); have n3_ := Aside0.mk (hi); clear HO310; clear HB; clear HI307; have HO310 := n0_; have HO320 := n1_; have HB := n2_; have HI307 := n3_; clear n0_ n1_ n2_ n3_; (try clear hb); (try clear hb2); (try clear hk); (try clear hi); (try clear ho0)))
   go_ret2
   exact ⟨_, _, by first | rfl | (simp [errW_none, errW_some] <;> rfl) | (simp [*, errW_none, errW_some] <;> rfl), by (with_reducible repeat (first | apply Kd.R_alloc | apply Kd.R_drewN | apply Kd.R_drew)); exact Kd.R_mono HO310.out (fun _ hk => hk.2), by (with_reducible repeat (first | apply Kd.R_alloc | apply Kd.R_drewN | apply Kd.R_drew)); exact Kd.R_mono HO320.out (fun _ hk => hk.2), by repeat (first | (with_reducible first | exact HB.out | apply below_alloc | apply pw_below_drewN | apply below_drew1 | refine below_set ?_ (IsS106.ge HI307.out)) | exact HB.out)⟩
end Go.Proofs.Ytfnhjaiioojbkaa.Q
end
section
namespace Go.Proofs.Ytfnhjaiioojbkaa.Q
open Go.RowKit Go.Proofs.YtfnhjaiioojbkaaW.PrintWords Go.Proofs.YtfnhjaiioojbkaaW.PrintLast Go.Proofs.YtfnhjaiioojbkaaW.PrintMore
attribute [local go_sem] max2_int min2_int max_two min_two max_three min_three max_four min_four   -- for this text's walks alone
set_option linter.unusedVariables false
set_option linter.unusedSimpArgs false
def spec_DrawDeltaOf.f (k : Nat) (l0 : List Int) : Option (List ByteArray × List ByteArray) := (spec_l30Two.f k l0).bind fun bt322 => (some (bt322.1, bt322.2))
theorem spec_DrawDeltaOf.mono : ∀ a0 k, LeO (spec_DrawDeltaOf.f k a0) (spec_DrawDeltaOf.f (k + 1) a0) := by
 intro a0 k
 unfold spec_DrawDeltaOf.f
 repeat' first
  | (with_reducible exact spec_l30Two.mono _ _)
  | (with_reducible exact LeO.refl _)
  | (with_reducible exact LeO.none _)
  | (with_reducible refine LeO.ite ?_ ?_)
  | (with_reducible refine LeO.bind ?_ (fun _ => ?_))
  | exact spec_l30Two.mono _ _
  | exact LeO.none _
  | refine LeO.ite ?_ ?_
  | refine LeO.bind ?_ (fun _ => ?_)
set_option maxHeartbeats 8000000 in
set_option maxRecDepth 100000 in
theorem spec_DrawDeltaOf.calls (k : Nat) (A0 : Option Addr) (c0 : Nat) (l0 : List Int) (r1 : List ByteArray) (r2 : List ByteArray) (w : World) (hr0 : Kd.C (Kd.int .u8) w A0 l0.length l0) (hc0 : l0.length ≤ c0) (h : spec_DrawDeltaOf.f k l0 = some (r1, r2)) :
 Calls Try.prog 20 #[.slice A0 l0.length c0] w fun e w' => ∃ v0_ v1_ : Value, e = .returned (.tuple #[v0_, v1_]) ∧ Kd.R Kd.string 9 w' w.heap.size (fun k_ => some k_ ≠ (v1_ : Value).ownBlock) v0_ r1 ∧ Kd.R Kd.string 9 w' w.heap.size (fun k_ => some k_ ≠ (v0_ : Value).ownBlock) v1_ r2 ∧ Below w.heap.size w w' := by
 have HR0 := Aside0.mk hr0
 have HC0 := Aside0.mk hc0
 clear hr0 hc0
 have HB := Aside0.mk (Below.refl w.heap.size w)
 have H : ((spec_l30Two.f k l0).bind fun bt322 => (some (bt322.1, bt322.2))) = some (r1, r2) := h
 clear h
 replace H := Option.bind_eq_some_iff.mp H
 obtain ⟨⟨t322, t323⟩, A20, H⟩ := H
 replace H : (some (t322, t323)) = some (r1, r2) := H
 have A2 := Aside0.mk A20
 clear A20
 simp only [Option.some.injEq, Prod.mk.injEq] at H
 obtain ⟨rfl, rfl⟩ := H
 go_enter Try.func20, Try.ntmps20
 go_wp2_with (first | ((with_reducible refine gate_callee (f := 69) rfl ?_); refine goesL_ (some 5) rfl rfl Try.func69 (by kernel_rfl) rfl #[.slice A0 l0.length c0] rfl (by (try simp only [List.map_toArray, List.map_cons, List.map_nil]); first | done | rfl | (simp only [List.length_drop, List.length_take]; rfl)) ?_; (with_reducible refine (spec_l30Two.calls k _ _ l0 t322 t323 _ ?side1 ?side2 A2.out).mono ?_); (case side1 => repeat (first | exact HR0.out | (with_reducible refine Kd.C_alloc ?_ _) | (with_reducible refine Kd.C_drewN ?_ _) | (with_reducible refine Kd.C_drew ?_))); (case side2 => exact HC0.out); rintro e w3 ⟨v324, v326, rfl, ho0, ho1, hb⟩; refine ⟨_, rfl, ?_⟩; have n0_ := Aside0.mk (Kd.R_lower ho0 (below_size (by repeat (first | (with_reducible first | exact HB.out | apply below_alloc | apply pw_below_drewN | apply below_drew1) | exact HB.out)))); have n1_ := Aside0.mk (Kd.R_lower ho1 (below_size (by repeat (first | (with_reducible first | exact HB.out | apply below_alloc | apply pw_below_drewN | apply below_drew1) | exact HB.out)))); have n2_ := Aside0.mk (below_step (by repeat (first | (with_reducible first | exact HB.out | apply below_alloc | apply pw_below_drewN | apply below_drew1) | exact HB.out)) hb); clear HB; have HO325 := n0_; have HO327 := n1_; have HB := n2_; clear n0_ n1_ n2_; (try clear hb); (try clear hb2); (try clear hk); (try clear hi); (try clear ho0); (try clear ho1)))
 go_ret2
 exact ⟨_, _, by first | rfl | (simp [errW_none, errW_some] <;> rfl) | (simp [*, errW_none, errW_some] <;> rfl), by (with_reducible repeat (first | apply Kd.R_alloc | apply Kd.R_drewN | apply Kd.R_drew)); exact HO325.out, by (with_reducible repeat (first | apply Kd.R_alloc | apply Kd.R_drewN | apply Kd.R_drew)); exact HO327.out, by repeat (first | (with_reducible first | exact HB.out | apply below_alloc | apply pw_below_drewN | apply below_drew1) | exact HB.out)⟩
end Go.Proofs.Ytfnhjaiioojbkaa.Q
end
section
namespace Go.Proofs.Ytfnhjaiioojbkaa.Q
open Go.RowKit Go.Proofs.YtfnhjaiioojbkaaW.PrintWords
set_option linter.unusedVariables false
set_option linter.unusedSimpArgs false
theorem bytes_of {l : List Int} (h : ∀ x ∈ l, (Lit.int .u8 x).wf = true) : ∀ x ∈ l, 0 ≤ x ∧ x ≤ 255 := fun x hx => by
  have := h x hx
  simp [Lit.wf, IntKind.bits, IntKind.signed, IntKind.min, IntKind.max] at this
  omega
theorem Sm_of {l : List ByteArray} (h : l.length ≤ 100) (hz : Sz l) : Sm l := ⟨by omega, fun s hs => by have := hz s hs; omega⟩
theorem two_ev {l : List Int} (h : ∀ x ∈ l, 0 ≤ x ∧ x ≤ 255) : ∃ a b, Ev (fun k => spec_DrawDeltaOf.f k l) (a, b) ∧ Sm a ∧ Sm b := by
  obtain ⟨c, hc, hb⟩ := open_ev h
  obtain ⟨a, p, ha, la, za, p1, p2⟩ := anyText_ev hb (p := 0) (by omega) (by omega)
  obtain ⟨v, hv, v0, v1⟩ := pick_ev hb (p := p) ⟨by omega, by omega⟩ (n := 4) (by omega)
  obtain ⟨b, q, hb2, lb, zb, q1, q2⟩ := anyText_ev hb (p := p + 1) (by omega) (by omega)
  obtain ⟨b', q', hb3, lb', zb', q1', q2'⟩ := turn_ev hb (p := p + 1) (by omega) (by omega) a (by omega) za
  unfold spec_DrawDeltaOf.f spec_l30Two.f
  simp only [hc, Option.bind_some]
  by_cases h0 : v = 0
  · exact ⟨a, b, Ev.bind (Ev.bind ha (Ev.bind hv (Ev.posf h0 (Ev.bind hb2 (Ev.now _))))) (Ev.now _), Sm_of (by omega) za, Sm_of (by omega) zb⟩
  · exact ⟨a, b', Ev.bind (Ev.bind ha (Ev.bind hv (Ev.negf h0 (Ev.bind hb3 (Ev.now _))))) (Ev.now _), Sm_of (by omega) za, Sm_of (by omega) zb'⟩
theorem SmD_ofB (a b : Tx) : SmD (ofB a b) := by
  by_cases h : textB a = true ∧ textB b = true
  · rw [ofB, if_pos h]
    obtain ⟨h1, h2⟩ := deltaB_len (dOf_ok h.1 h.2)
    refine ⟨by omega, fun x hx => ?_⟩
    obtain ⟨_, _, _, p4, p5⟩ := piece_ok (h2 x hx)
    exact ⟨by omega, fun s hs => by have := p5 s hs; omega⟩
  · rw [ofB, if_neg h]
    exact ⟨by simp, by simp⟩
theorem Sm_nil : Sm [] := ⟨by simp, by simp⟩
end Go.Proofs.Ytfnhjaiioojbkaa.Q
end
section
namespace Go.Proofs.Ytfnhjaiioojbkaa.Q
open Go.RowKit Go.Proofs.YtfnhjaiioojbkaaW.PrintWords
set_option linter.unusedVariables false
set_option linter.unusedSimpArgs false
theorem SmD_set {d : List Dl} (h : SmD d) (i : Nat) {x : Dl} (hx : Sm x.f2) : SmD (d.set i x) := ⟨by simpa using h.1, fun y hy => by
  rcases List.mem_or_eq_of_mem_set hy with hy | rfl
  · exact h.2 y hy
  · exact hx⟩
theorem rdD_Sm {d : List Dl} (h : SmD d) (i : Int) : Sm (rd_T39 d i).f2 := by
  show Sm (d.getD i.toNat z39).f2
  rw [List.getD_eq_getElem?_getD]
  by_cases hi : i.toNat < d.length
  · simp [hi]
    exact h.2 _ (List.getElem_mem hi)
  · simp [hi]
    exact Sm_nil
theorem f2_short (a b : Tx) (i : Int) : (rd_T39 (ofB a b) i).f2.length ≤ 10 ∧ ∀ s ∈ (rd_T39 (ofB a b) i).f2, s.size ≤ 12 := by
  show ((ofB a b).getD i.toNat z39).f2.length ≤ 10 ∧ ∀ s ∈ ((ofB a b).getD i.toNat z39).f2, s.size ≤ 12
  rw [List.getD_eq_getElem?_getD]
  by_cases hi : i.toNat < (ofB a b).length
  · simp only [hi, List.getElem?_eq_getElem, Option.getD_some]
    by_cases h : textB a = true ∧ textB b = true
    · have e : ofB a b = dOf a b := if_pos h
      have hm : ∀ x ∈ ofB a b, x ∈ dOf a b := by rw [e]; exact fun x hx => hx
      obtain ⟨_, _, _, p4, p5⟩ := piece_ok ((deltaB_len (dOf_ok h.1 h.2)).2 _ (hm _ (List.getElem_mem hi)))
      exact ⟨p4, p5⟩
    · have e : ofB a b = [] := if_neg h
      rw [e] at hi
      simp at hi
  · simp [hi, z39]
theorem delta_ev {c : List Int} (hb : Code c) {p : Int} (h0 : 0 ≤ p) (h1 : p ≤ 1000) (t : Tx) (ht : t.length ≤ 100) (hz : Sz t) :
    ∃ d q, Ev (fun k => spec_l30Delta.f k c p t) (d, q) ∧ SmD d ∧ p ≤ q ∧ q ≤ p + 20 := by
  obtain ⟨u, p1, hu, lu, zu, g1, g2⟩ := turn_ev hb (p := p) (by omega) (by omega) t (by omega) hz
  have hD := specDeltaOf_ev t u (Sm_of ht hz) (Sm_of (by omega) zu)
  have hs := SmD_ofB t u
  have hl : (ofB t u).length ≤ 10 := by
    by_cases h : textB t = true ∧ textB u = true
    · rw [ofB, if_pos h]
      exact (deltaB_len (dOf_ok h.1 h.2)).1
    · rw [ofB, if_neg h]; simp
  unfold spec_l30Delta.f
  by_cases hn : ((ofB t u).length : Int) > 0
  · obtain ⟨i, hi, i0, i1⟩ := pick_ev hb (p := p1) ⟨by omega, by omega⟩ (n := (ofB t u).length) (by omega)
    have i2 := i1 (by omega)
    obtain ⟨v, hv, v0, v1⟩ := pick_ev hb (p := p1 + 1) ⟨by omega, by omega⟩ (n := 14) (by omega)
    obtain ⟨x, hx, _⟩ := one_ev hb (p := p1 + 1 + 1) ⟨by omega, by omega⟩ (l := [-1, 9, 0]) (by simp) (by simp)
    obtain ⟨y, hy, _⟩ := one_ev hb (p := p1 + 1 + 1) ⟨by omega, by omega⟩ (l := [-1, 10, 1]) (by simp) (by simp)
    have hr := rdD_Sm hs i
    have hf := f2_short t u i
    by_cases c0 : v = 0
    · exact ⟨_, _, Ev.bind hu (Ev.bind hD (Ev.posf hn (Ev.bind hi (Ev.bind hv (Ev.posf c0 (Ev.bind hx (Ev.posf i0 (Ev.posf i2 (Ev.now _))))))))), SmD_set hs _ hr, by omega, by omega⟩
    · by_cases c1 : v = 1
      · exact ⟨_, _, Ev.bind hu (Ev.bind hD (Ev.posf hn (Ev.bind hi (Ev.bind hv (Ev.negf c0 (Ev.posf c1 (Ev.bind hy (Ev.posf i0 (Ev.posf i2 (Ev.now _)))))))))), SmD_set hs _ hr, by omega, by omega⟩
      · by_cases c2 : v = 2
        · exact ⟨_, _, Ev.bind hu (Ev.bind hD (Ev.posf hn (Ev.bind hi (Ev.bind hv (Ev.negf c0 (Ev.negf c1 (Ev.posf c2 (Ev.somef (Ev.posf i0 (Ev.posf i2 (Ev.posf (by simp; omega) (Ev.somef (Ev.posf (by simp; omega) (Ev.now _)))))))))))))), SmD_set hs _ ⟨by simp; omega, fun s hs2 => by
            simp only [List.nil_append, List.mem_append, List.mem_singleton] at hs2
            rcases hs2 with hs2 | rfl
            · have := hf.2 s hs2; omega
            · decide⟩, by omega, by omega⟩
        · exact ⟨_, _, Ev.bind hu (Ev.bind hD (Ev.posf hn (Ev.bind hi (Ev.bind hv (Ev.negf c0 (Ev.negf c1 (Ev.negf c2 (Ev.now _)))))))), hs, by omega, by omega⟩
  · exact ⟨_, _, Ev.bind hu (Ev.bind hD (Ev.negf hn (Ev.now _))), hs, by omega, by omega⟩
theorem drawDeltaDo_ev {l : List Int} (h : ∀ x ∈ l, 0 ≤ x ∧ x ≤ 255) : ∃ t d, Ev (fun k => spec_DrawDeltaDo.f k l) (t, d) ∧ Sm t ∧ SmD d := by
  obtain ⟨c, hc, hb⟩ := open_ev h
  obtain ⟨t, p, ht, lt, zt, p1, p2⟩ := anyText_ev hb (p := 0) (by omega) (by omega)
  obtain ⟨d, q, hd, sd, q1, q2⟩ := delta_ev hb (p := p) (by omega) (by omega) t (by omega) zt
  obtain ⟨v, hv, v0, v1⟩ := pick_ev hb (p := q) ⟨by omega, by omega⟩ (n := 6) (by omega)
  obtain ⟨u, q', hu, lu, zu, g1, g2⟩ := turn_ev hb (p := q + 1) (by omega) (by omega) t (by omega) zt
  unfold spec_DrawDeltaDo.f
  simp only [hc, Option.bind_some]
  by_cases h0 : v = 0
  · exact ⟨u, d, Ev.bind ht (Ev.bind hd (Ev.bind hv (Ev.posf h0 (Ev.bind hu (Ev.now _))))), Sm_of (by omega) zu, sd⟩
  · exact ⟨t, d, Ev.bind ht (Ev.bind hd (Ev.bind hv (Ev.negf h0 (Ev.now _)))), Sm_of (by omega) zt, sd⟩
theorem doB_len (t : Tx) (d : List Dl) : (doB t d).1.length ≤ 10 := by
  unfold doB
  split
  · cases doGo t d [] with
    | none => simp [fin]
    | some x =>
      simp only [fin]
      split
      · rename_i h; exact textB_len h
      · simp
  · simp
/-- A text that was made is ok, out of an ok base and ok pieces. -/
theorem doB_true {t : Tx} {d : List Dl} (h : (doB t d).2 = true) : textB t = true ∧ deltaB d = true ∧ doGo t d [] = some (doB t d).1 ∧ textB (doB t d).1 = true := by
  unfold doB at h ⊢
  by_cases c : textB t = true ∧ deltaB d = true
  · rw [if_pos c] at h ⊢
    cases e : doGo t d [] with
    | none => rw [e] at h; cases h
    | some x =>
      rw [e] at h
      simp only [fin] at h ⊢
      by_cases hx : textB x = true
      · rw [if_pos hx]; exact ⟨c.1, c.2, rfl, hx⟩
      · rw [if_neg hx] at h; cases h
  · rw [if_neg c] at h; cases h
end Go.Proofs.Ytfnhjaiioojbkaa.Q
end
section
namespace Go.Proofs.Ytfnhjaiioojbkaa.Pure
open Go.RowKit Go.Proofs.Ytfnhjaiioojbkaa.Q Go.Proofs.YtfnhjaiioojbkaaW.PrintWords Go.Proofs.YtfnhjaiioojbkaaW.PrintLast
set_option linter.unusedVariables false
set_option linter.unusedSimpArgs false
theorem FnDeltaDo : laws_FnDeltaDo.Pure := by
  intro l _ _ h
  refine Ev.rounds (r := true) (g := fun k => laws_FnDeltaDo.f k l) ?_
  obtain ⟨t, d, hd, ht, sd⟩ := drawDeltaDo_ev (bytes_of h)
  have hT := smTexts_refl (doB t d).1 (by have := doB_len t d; omega)
  unfold laws_FnDeltaDo.f
  refine Ev.ite (fun _ => Ev.now _) (fun _ => Ev.bind hd (Ev.bind (implDeltaDo_ev t d ht sd) (Ev.bind (specDeltaDo_ev t d ht sd) (Ev.negf (by simp) (Ev.bind hT (Ev.posf rfl (Ev.bind (implOk_ev d sd) (Ev.bind (specDeltaOk_ev d sd) (Ev.negf (by simp) ?_)))))))))
  cases hok : (doB t d).2 with
  | false =>
    refine Ev.step' ?_
    simp only [laws_FnDeltaDo.j0]
    exact Ev.posf (by simp) (Ev.posf (by simp) (Ev.bind hT (Ev.posf rfl (Ev.bind (implOk_ev d sd) (Ev.bind (specDeltaOk_ev d sd) (EvT (Ev.now _) (by simp)))))))
  | true =>
    obtain ⟨h1, h2, h3, h4⟩ := doB_true hok
    have hxs := textB_Sm h4
    refine Ev.step' ?_
    simp only [laws_FnDeltaDo.j0]
    refine Ev.negf (by simp) (Ev.ite (fun c => Ev.bind (implText_ev _ hxs) (EvT (Ev.now _) h4)) (fun c => ?_))
    have hl := textB_len h1
    have hm : textB (([] ++ t) ++ [⟨#[109, 111, 114, 101]⟩]) = true := by
      simp only [textB, Bool.and_eq_true, decide_eq_true_eq, List.all_eq_true] at h1 ⊢
      refine ⟨by simp; omega, fun s hs => ?_⟩
      simp only [List.nil_append, List.mem_append, List.mem_singleton] at hs
      rcases hs with hs | rfl
      · exact h1.2 s hs
      · decide
    have hmore : doB (([] ++ t) ++ [⟨#[109, 111, 114, 101]⟩]) d = ((doB t d).1, true) := by
      rw [doB, if_pos ⟨hm, h2⟩, List.nil_append, doGo_more d [] _ (deltaB_len h2).2 h3]
      simp [fin, h4]
    have hdo := implDeltaDo_ev _ d (textB_Sm hm) sd
    rw [hmore] at hdo
    exact Ev.somef (Ev.posf (by simp; omega) (Ev.somef (Ev.posf (by simp; omega) (Ev.bind hdo (Ev.posf rfl (Ev.bind hT (Ev.posf rfl (Ev.bind (implText_ev _ hxs) (EvT (Ev.now _) h4)))))))))
end Go.Proofs.Ytfnhjaiioojbkaa.Pure
end
section
namespace Go.Proofs.YtfnhjaiioojbkaaW.PrintWords
open Go.ChangeShapes Go.WideShapes
/-- A row's slice of whole numbers is no longer than its weight allows. -/
theorem sized_ints {H : Type} {enc : TypeId × Value → H} {P : Program} {W : World} {base : Nat} {spare : Nat → Bool} {held : Bool} {t e : TypeId} {k : IntKind} {a : Option Addr} {len cap : Nat} {d : DataW H} {ps : List MemPlace} {ts : List TypeId} {ds : List (DataW H)} {j : Nat}
    (hsz : (DataW.weightsEach P ts ds).all (· ≤ reachBytes) = true) (ht : ts[j]? = some t) (hd : ds[j]? = some d) (hu : P.underlying t = some (.slice e)) (he : P.underlying e = some (.int k)) (hc : P.cellsOf e = 1) {B : Nat} (hB : P.bytesOf e = B)
    (h : DataW.Trod enc P W base spare held t (.slice a len cap) d ps) : len * B ≤ 140737488351232 := by
  obtain ⟨fuel, hf⟩ := h
  rcases open_ints hu he hc hf with ⟨hcs, _⟩ | ⟨x, l, c, zs, hcs, _, hl, _, hz, hx, _, _⟩
  · simp [Value.cells] at hcs
    obtain ⟨rfl, rfl, rfl⟩ := hcs
    simp
  · simp [Value.cells] at hcs
    obtain ⟨rfl, rfl, rfl⟩ := hcs
    obtain ⟨hx, _⟩ := Prod.mk.inj hx
    subst hx
    have z := sized_slice hsz ht hd hu
    rw [hB] at z
    have hl2 : len ≤ zs.length := by
      rw [hz]
      split
      · exact hl
      · exact Nat.le_refl _
    have h1 : (lits (H := H) k (zs.take len)).length + (lits (H := H) k (zs.drop len)).length = zs.length := by
      simp [lits]
      omega
    rw [h1] at z
    exact Nat.le_trans (Nat.mul_le_mul_right _ hl2) z
end Go.Proofs.YtfnhjaiioojbkaaW.PrintWords
end
section
namespace Go.Proofs.Ytfnhjaiioojbkaa.fnDeltaDo
open Go.ChangeShapes Go.WideShapes Go.ChangeAt Go.RowKit
open Go.ChangeMaps (open_string shut_string)
set_option linter.unusedVariables false
theorem own : ownKnob Try.prog.godebug = none := by kernel_rfl
theorem laidOut : laidOutB Try.prog = true := by kernel_rfl
def IsRow (k : IntKind) (w : World) (a : Option Addr) (len cap : Nat) (zs : List Int) : Prop :=
  (a = none ∧ len = 0 ∧ cap = 0 ∧ zs = []) ∨
  ∃ x, a = some x ∧ len ≤ cap ∧ cap ≤ maxLen ∧ zs.length = cap ∧ (∀ i, i < zs.length → w.cell? (x.add i) = some (.int k (zs.getD i 0))) ∧ ∀ n ∈ zs, (Lit.int k n).wf = true
set_option maxRecDepth 100000 in
theorem lifted (os : Os) (started : os.Started) (H : Type) (enc : TypeId × Value → H) :
    ReturnsInHanded {} Try.checked os 6 .any (Rows.fnDeltaDoSpec.pre6 enc Try.prog Try.f6 Rows.fnDeltaDoRow.domain false) (Rows.fnDeltaDoSpec.post enc Try.prog Try.f6 false true false false) := by
  refine returnsInHanded_of_change_sized (C := Try.checked) own started (by kernel_rfl) Try.func6
    (ChangeSpec.witness6 (enc := enc) (C := Try.checked) false ⟨#[], #[.slice none 0 0], []⟩ 8 (by kernel_rfl) (by kernel_rfl) (by kernel_rfl) (by kernel_rfl)) ?_
  intro W base args ds gs before hval0 hW hcnd hsz0 _
  have hsz : (DataW.weightsEach Try.prog (Try.f6.params.toList ++ Rows.fnDeltaDoSpec.plain.varTypes Try.prog) (ds ++ gs)).all (· ≤ reachBytes) = true := hsz0
  have hval : ∀ (j : Nat) t v, Try.f6.params[j]? = some t → args[j]? = some v → Value.okWide Try.prog W .any base t v := hval0
  have hW' := hW
  obtain ⟨p, q, hA0, hV, rfl, hfz, hnd⟩ := hW
  have hA : DataW.TrodAll enc Try.prog W 0 (fun _ => true) true Try.f6.params.toList args.toList ds p := hA0
  rw [Try.params6] at hA hval hsz
  obtain ⟨v0, vs0, d0, ds0, p0, q0, hargs, rfl, rfl, h0, r0⟩ := trodAll_cons hA
  obtain ⟨rfl, rfl, rfl⟩ := trodAll_nil r0
  obtain rfl : args = #[v0] := by cases args; simp_all
  obtain ⟨rfl, rfl⟩ := trodVars_none hV
  obtain ⟨a0, len0, cap0, rfl⟩ := okWide_slice Try.underlying29 (hval 0 29 v0 rfl rfl)
  have k0 := h0
  have lt0 : ∀ x ∈ p0, x.block < W.heap.size := by obtain ⟨m, hm⟩ := k0; exact DataW.trod_lt m _ _ _ hm
  obtain ⟨z0, w0⟩ : ∃ zs, IsRow .u8 W a0 len0 cap0 zs := by
    obtain ⟨fuel, hf⟩ := h0
    rcases open_ints Try.underlying29 Try.underlying5 (by kernel_rfl) hf with ⟨hcs, _⟩ | ⟨x, l, c, zs, hcs, _, hl, hm, hz, _, hcell, hwz⟩
    · simp [Value.cells] at hcs
      obtain ⟨rfl, rfl, rfl⟩ := hcs
      exact ⟨[], .inl ⟨rfl, rfl, rfl, rfl⟩⟩
    · simp [Value.cells] at hcs
      obtain ⟨rfl, rfl, rfl⟩ := hcs
      exact ⟨zs, .inr ⟨_, rfl, hl, hm, by simpa using hz, hcell, hwz⟩⟩
  have y0 : len0 * 1 ≤ 140737488351232 := Go.Proofs.YtfnhjaiioojbkaaW.PrintWords.sized_ints hsz (j := 0) (t := 29) rfl rfl Try.underlying29 Try.underlying5 (by kernel_rfl) (by kernel_rfl) h0
  clear hA0 hval0 hsz0 hsz
  refine (Q.laws_FnDeltaDo.walk Pure.FnDeltaDo a0 len0 cap0 z0 W w0 y0).mono fun e W' ⟨he, bel⟩ => ?_
  subst he
  exact ⟨_, rfl, _, _, _, [], _, [], hW', trodAll_mk1 (shut_bool Try.underlying4 _), (trodAll_cons_mk (Below.trod laidOut (by kernel_rfl) (of_decide_eq_true (by kernel_rfl)) k0 bel lt0) trodAll_mk0), rfl, bel.frame _, fun h => by cases h⟩
theorem over : Rows.fnDeltaDoRow.holds Try.pinned (OpenSpec.ofChange Rows.fnDeltaDoSpec) :=
  OpenClaim.holds_of_wide 6 Try.f6 rfl rfl rfl rfl rfl rfl rfl ⟨rfl, rfl, rfl, rfl, rfl⟩ rfl rfl rfl rfl rfl (by kernel_rfl) Try.func6 (by kernel_rfl)
    (of_decide_eq_true (by kernel_rfl)) (by unfold Func.isWrapper; first | (rw [if_pos (by decide +kernel)]; kernel_rfl) | (rw [if_neg (by decide +kernel)]; exact ⟨rfl, rfl⟩))
    (fun os started H enc _ => lifted os started H enc)
theorem proved : Rows.FnDeltaDoSaid := over
#print axioms proved
end Go.Proofs.Ytfnhjaiioojbkaa.fnDeltaDo
namespace Go.Proofs.Ytfnhjaiioojbkaa
/-- The row, under a short name, for the claim. -/
theorem fnDeltaDo_holds : Rows.FnDeltaDoSaid := fnDeltaDo.proved
end Go.Proofs.Ytfnhjaiioojbkaa
end
