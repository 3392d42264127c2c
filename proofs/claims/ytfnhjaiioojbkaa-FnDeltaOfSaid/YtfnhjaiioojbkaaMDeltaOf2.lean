/- A part of the proof of DeltaOf: functions of the program and the reference, each with what it comes to. -/
import Derived.Test.YtfnhjaiioojbkaaMDeltaOf0
import Derived.Test.YtfnhjaiioojbkaaMDeltaOf1
set_option linter.unusedVariables false
set_option linter.unusedSimpArgs false
section
namespace Go.Proofs.Ytfnhjaiioojbkaa.Q
open Go.RowKit Go.Proofs.YtfnhjaiioojbkaaW.PrintWords Go.Proofs.YtfnhjaiioojbkaaW.PrintLast Go.Proofs.YtfnhjaiioojbkaaW.PrintMore
attribute [local go_sem] max2_int min2_int max_two min_two max_three min_three max_four min_four   -- for this text's walks alone
set_option linter.unusedVariables false
set_option linter.unusedSimpArgs false
def spec_l30Turn.l0 : Nat → List ByteArray → Int → List Int → Int → Option (List ByteArray × Int)
 | 0, _, _, _, _ => none
 | k + 1, x5, x6, x1000, x1001 => if x6 > 0 then ((spec_l30Rd_pick.f k x1000 x1001 (wrap64 ((x5.length : Int) + 1))).bind fun bt270 => ((spec_l30Rd_pick.f k x1000 bt270.2 3).bind fun bt272 => (if bt272.1 = 0 then (if (x5.length : Int) < 10 then ((some (([] : List ByteArray) : List ByteArray)).bind fun y274 => (if 0 ≤ bt270.1 then (if bt270.1 ≤ (x5.length : Int) then ((some (x5.take (bt270.1 : Int).toNat : List ByteArray)).bind fun y277 => (if y274.length + y277.length < 8796093022208 then ((some (y274 ++ y277 : List ByteArray)).bind fun y281 => ((spec_l30Line.f k x1000 bt272.2).bind fun bt284 => (if y281.length < 8796093022208 then ((some (y281 ++ [bt284.1] : List ByteArray)).bind fun y286 => ((some (x5.drop (bt270.1 : Int).toNat : List ByteArray)).bind fun y289 => (if y286.length + y289.length < 8796093022208 then (spec_l30Turn.l0 k (y286 ++ y289) (wrap64 (x6 - 1)) x1000 bt284.2) else (none)))) else (none)))) else (none))) else (none)) else (none))) else (spec_l30Turn.l0 k x5 (wrap64 (x6 - 1)) x1000 bt272.2)) else (if bt272.1 = 1 then (if bt270.1 < (x5.length : Int) then ((some (([] : List ByteArray) : List ByteArray)).bind fun y296 => (if 0 ≤ bt270.1 then (if bt270.1 ≤ (x5.length : Int) then ((some (x5.take (bt270.1 : Int).toNat : List ByteArray)).bind fun y299 => (if y296.length + y299.length < 8796093022208 then ((some (y296 ++ y299 : List ByteArray)).bind fun y303 => (if 0 ≤ (wrap64 (bt270.1 + 1)) then (if (wrap64 (bt270.1 + 1)) ≤ (x5.length : Int) then ((some (x5.drop ((wrap64 (bt270.1 + 1)) : Int).toNat : List ByteArray)).bind fun y306 => (if y303.length + y306.length < 8796093022208 then (spec_l30Turn.l0 k (y303 ++ y306) (wrap64 (x6 - 1)) x1000 bt272.2) else (none))) else (none)) else (none))) else (none))) else (none)) else (none))) else (spec_l30Turn.l0 k x5 (wrap64 (x6 - 1)) x1000 bt272.2)) else (if bt270.1 < (x5.length : Int) then ((spec_l30Line.f k x1000 bt272.2).bind fun bt313 => (if 0 ≤ bt270.1 then (spec_l30Turn.l0 k (x5.set (bt270.1 : Int).toNat bt313.1) (wrap64 (x6 - 1)) x1000 bt313.2) else (none))) else (spec_l30Turn.l0 k x5 (wrap64 (x6 - 1)) x1000 bt272.2)))))) else (some (x5, x1001))
def spec_l30Turn.f (k : Nat) (s0_0 : List Int) (s0_1 : Int) (l1 : List ByteArray) : Option (List ByteArray × Int) := (some (([] : List ByteArray) : List ByteArray)).bind fun y262 => (if y262.length + l1.length < 8796093022208 then ((spec_l30Rd_pick.f k s0_0 s0_1 4).bind fun bt268 => (spec_l30Turn.l0 k (y262 ++ l1) bt268.1 s0_0 bt268.2)) else (none))
theorem spec_l30Turn.mono_l : ∀ k, (∀ y0 y1 y2 y3, LeO (spec_l30Turn.l0 k y0 y1 y2 y3) (spec_l30Turn.l0 (k + 1) y0 y1 y2 y3))
 | 0 => fun _ _ _ _ r h => by simp [spec_l30Turn.l0] at h
 | k + 1 => by
  have ih0 := spec_l30Turn.mono_l k
  · intro y0 y1 y2 y3
    unfold spec_l30Turn.l0
    repeat' first
    | (with_reducible exact ih0 _ _ _ _)
    | (with_reducible exact spec_l30Line.mono _ _ _)
    | (with_reducible exact spec_l30Rd_pick.mono _ _ _ _)
    | (with_reducible exact LeO.refl _)
    | (with_reducible exact LeO.none _)
    | (with_reducible refine LeO.ite ?_ ?_)
    | (with_reducible refine LeO.bind ?_ (fun _ => ?_))
    | exact ih0 _ _ _ _
    | exact spec_l30Line.mono _ _ _
    | exact spec_l30Rd_pick.mono _ _ _ _
    | exact LeO.none _
    | refine LeO.ite ?_ ?_
    | refine LeO.bind ?_ (fun _ => ?_)
theorem spec_l30Turn.mono : ∀ a0 a1 a2 k, LeO (spec_l30Turn.f k a0 a1 a2) (spec_l30Turn.f (k + 1) a0 a1 a2) := by
 intro a0 a1 a2 k
 have ih0 := spec_l30Turn.mono_l k
 unfold spec_l30Turn.f
 repeat' first
  | (with_reducible exact ih0 _ _ _ _)
  | (with_reducible exact spec_l30Line.mono _ _ _)
  | (with_reducible exact spec_l30Rd_pick.mono _ _ _ _)
  | (with_reducible exact LeO.refl _)
  | (with_reducible exact LeO.none _)
  | (with_reducible refine LeO.ite ?_ ?_)
  | (with_reducible refine LeO.bind ?_ (fun _ => ?_))
  | exact ih0 _ _ _ _
  | exact spec_l30Line.mono _ _ _
  | exact spec_l30Rd_pick.mono _ _ _ _
  | exact LeO.none _
  | refine LeO.ite ?_ ?_
  | refine LeO.bind ?_ (fun _ => ?_)
def spec_l30Turn.T16 : Bool × List (List Nat × List Nat) := (true, [([], []), ([], []), ([], []), ([1, 2], [1, 2]), ([0, 3], [0, 3]), ([], []), ([], []), ([6], [6]), ([5, 7], [5, 7]), ([4, 8, 4], [4, 8]), ([9, 9, 0, 1, 2, 3, 4, 5, 6, 7, 8, 9], [1, 5, 9])])
def spec_l30Turn.B16 : List Nat := [0, 0, 0, 6, 15, 0, 0, 64, 224, 511, 1023]
theorem spec_l30Turn.tab16 : rtab .any (opsOf Try.f82 16) = spec_l30Turn.T16 := by kernel_rfl
theorem spec_l30Turn.bits16 : waitsOk spec_l30Turn.T16.2 spec_l30Turn.B16 = true := by kernel_rfl
set_option maxHeartbeats 8000000 in
set_option maxRecDepth 100000 in
theorem spec_l30Turn.calls (k : Nat) (g : Nat) (s0_0 : List Int) (s0_1 : Int) (A1 : Option Addr) (c1 : Nat) (l1 : List ByteArray) (r1 : List ByteArray) (r2 : Int) (w0 w : World) (hI : IsS106 w0 w g s0_0 s0_1) (hB : Below w0.heap.size w0 w) (hr1 : Kd.C Kd.string w A1 l1.length l1) (hc1 : l1.length ≤ c1) (hf1 : ∀ ad, A1 = some ad → 0 < l1.length → ad.block ≠ g) (h : spec_l30Turn.f k s0_0 s0_1 l1 = some (r1, r2)) :
 Calls Try.prog 82 #[.pointer (some ⟨g, 0, none⟩), .slice A1 l1.length c1] w fun e w' => ∃ v0_ : Value, e = .returned (v0_) ∧ Kd.R Kd.string 9 w' w.heap.size (fun _ => True) v0_ r1 ∧ IsS106 w0 w' g s0_0 r2 ∧ Below w0.heap.size w0 w' ∧ KeepBut w w' g none := by
 have HR1 := Aside0.mk hr1
 have HC1 := Aside0.mk hc1
 clear hr1 hc1
 have HI0 := Aside0.mk hI
 have HK := Aside0.mk (KeepBut.refl w g none)
 have HL := Aside0.mk hB.size
 clear hI
 have HW0 := Aside0.mk hB.size
 have HB := Aside0.mk hB
 clear hB
 have H : ((some (([] : List ByteArray) : List ByteArray)).bind fun y262 => (if y262.length + l1.length < 8796093022208 then ((spec_l30Rd_pick.f k s0_0 s0_1 4).bind fun bt268 => (spec_l30Turn.l0 k (y262 ++ l1) bt268.1 s0_0 bt268.2)) else (none))) = some (r1, r2) := h
 clear h
 obtain ⟨y262, hy262⟩ : ∃ y_ : List ByteArray, y_ = (([] : List ByteArray)) := ⟨_, rfl⟩
 replace H : (if y262.length + l1.length < 8796093022208 then ((spec_l30Rd_pick.f k s0_0 s0_1 4).bind fun bt268 => (spec_l30Turn.l0 k (y262 ++ l1) bt268.1 s0_0 bt268.2)) else (none)) = some (r1, r2) := by first | (rw [hy262]; with_reducible exact H) | (have H2_ := (Option.bind_some _ _).symm.trans H; rw [hy262]; with_reducible exact H2_) | (have H2_ := (Option.bind_some _ _).symm.trans H; with_reducible exact H2_) | with_reducible exact H | (rw [hy262]; exact H) | exact H
 have Ny262 := Aside0.mk hy262
 clear hy262
 by_cases c3 : y262.length + l1.length < 8796093022208
 · rw [if_pos c3] at H
   have LMc3 := Aside0.mk c3
   clear c3
   obtain ⟨y265, hy265⟩ : ∃ y_ : List ByteArray, y_ = (y262 ++ l1) := ⟨_, rfl⟩
   replace H : ((spec_l30Rd_pick.f k s0_0 s0_1 4).bind fun bt268 => (spec_l30Turn.l0 k y265 bt268.1 s0_0 bt268.2)) = some (r1, r2) := by first | (rw [hy265]; with_reducible exact H) | (have H2_ := (Option.bind_some _ _).symm.trans H; rw [hy265]; with_reducible exact H2_) | (have H2_ := (Option.bind_some _ _).symm.trans H; with_reducible exact H2_) | with_reducible exact H | (rw [hy265]; exact H) | exact H
   have Ny265 := Aside0.mk hy265
   clear hy265
   replace H := Option.bind_eq_some_iff.mp H
   obtain ⟨⟨t268, t269⟩, A40, H⟩ := H
   replace H : (spec_l30Turn.l0 k y265 t268 s0_0 t269) = some (r1, r2) := H
   have A4 := Aside0.mk A40
   clear A40
   have H' := Aside0.mk H
   clear H
   go_enter Try.func82, Try.ntmps82
   go_wp2_with (first | ((with_reducible refine gate_dst (N := 9) rfl ?_); refine Kd.R_lit Kd.string _ 9 ?hg (N := 9) ?hd (xs := ([] : List ByteArray)) (inner := []) (ok := fun _ => True) (okp := fun _ => True) ?hr ?hp (fun _ hk => hk) trivial (Below.refl _ _) (Nat.le_refl _) (by simp) ?_; (case hd => rfl); (case hg => rfl); (case hr => first | (go_simp; done) | (go_simp; rfl)); (case hp => exact (Reps.none _ _)); intro v263 w5 ho6 hb hg_ hnew_; clear hg_ hnew_; (first | rw [← Ny262.out] at ho6 | (simp only [Int.reduceToNat] at ho6; rw [← Ny262.out] at ho6)); have n0_ := Aside0.mk (Kd.R_lower ho6 (keep_size (w := w) (g := g) (row := none) (by repeat (first | (with_reducible first | exact HK.out | apply KeepBut.set_ | apply keep_drewN | apply keep_drew | apply keep_alloc) | exact HK.out)))); have n1_ := Aside0.mk (IsS106.below (by repeat (first | (with_reducible first | exact HI0.out | apply IsS106.alloc | apply IsS106.drewN | apply IsS106.drew | apply IsS106.set_1) | exact HI0.out)) hb); have n2_ := Aside0.mk (KeepBut.trans (by repeat (first | (with_reducible first | exact HK.out | apply KeepBut.set_ | apply keep_drewN | apply keep_drew | apply keep_alloc) | exact HK.out)) (KeepBut.of_below hb g none) (.inl rfl)); have n3_ := Aside0.mk (below_step (by repeat (first | (with_reducible first | exact HB.out | apply below_alloc | apply pw_below_drewN | apply below_drew1 | refine below_set ?_ (IsS106.ge HI0.out)) | exact HB.out)) hb); clear HI0; clear HK; clear HB; have HO264 := n0_; have HI0 := n1_; have HK := n2_; have HB := n3_; clear n0_ n1_ n2_ n3_; clear hb ho6) | ((with_reducible refine gate_builtin (b := .append) (xs := #[.tmp 9, .tmp 10]) rfl ?_); at_builtin; refine Kd.R_append_rows Kd.string w.heap.size rfl (.tmp 9) (.tmp 10) 30 9 (.string ⟨#[]⟩) 16 rfl Try.underlying30 info9 rfl (by decide) (by omega) v263 y262 l1 _ _ _ (fun _ => True) (fun _ => False) rfl rfl ?aO ?aR (fun _ _ h => h) (fun _ h => h.elim) ?aF (Below.refl _ _) ?aS ?aL ?_; (case aR => exact Kd.C_keep (⟨#[]⟩ : ByteArray) HR1.out (by repeat (first | (with_reducible first | exact HK.out | apply KeepBut.set_ | apply keep_drewN | apply keep_drew | apply keep_alloc) | exact HK.out)) hf1); (case aF => exact (fun _ _ => trivial)); (case aO => exact (by (with_reducible repeat (first | apply Kd.R_alloc | apply Kd.R_drewN | apply Kd.R_drew)); exact HO264.out)); (case aS => exact (keep_size (w := w) (g := g) (row := none) (by repeat (first | (with_reducible first | exact HK.out | apply KeepBut.set_ | apply keep_drewN | apply keep_drew | apply keep_alloc) | exact HK.out)))); (case aL => have := LMc3.out; omega); intro v266 w7 ho hb hg hat; rw [← Ny265.out] at ho; have n0_ := Aside0.mk (IsS106.grown (by repeat (first | (with_reducible first | exact HI0.out | apply IsS106.alloc | apply IsS106.drewN | apply IsS106.drew | apply IsS106.set_1) | exact HI0.out)) hg (IsS106.own_ne HI0.out HO264.out (by decide))); have n1_ := Aside0.mk (below_weaken (by repeat (first | (with_reducible first | exact HB.out | apply below_alloc | apply pw_below_drewN | apply below_drew1 | refine below_set ?_ (IsS106.ge HI0.out)) | exact HB.out)) HL.out hb); have n2_ := Aside0.mk (KeepBut.trans (by repeat (first | (with_reducible first | exact HK.out | apply KeepBut.set_ | apply keep_drewN | apply keep_drew | apply keep_alloc) | exact HK.out)) (KeepBut.of_grown hg g) (Kd.R_base2 HO264.out)); have n3_ := Aside0.mk (ho); clear HI0; clear HB; clear HK; clear HO264; have HI0 := n0_; have HB := n1_; have HK := n2_; have HO267 := n3_; clear n0_ n1_ n2_ n3_; clear ho hb hg hat) | ((with_reducible refine gate_callee (f := 81) rfl ?_); refine goesL_ (some 13) rfl rfl Try.func81 (by kernel_rfl) rfl #[.pointer (some ⟨g, 0, none⟩), .int .i64 4] rfl (by (try simp only [List.map_toArray, List.map_cons, List.map_nil]); first | done | rfl | (simp only [List.length_drop, List.length_take]; rfl)) ?_; (with_reducible refine (spec_l30Rd_pick.calls k g s0_0 s0_1 4 t268 t269 w0 _ ?side1 ?side2 A4.out).mono ?_); (case side1 => repeat (first | (with_reducible first | exact HI0.out | apply IsS106.alloc | apply IsS106.drewN | apply IsS106.drew | apply IsS106.set_1) | exact HI0.out)); (case side2 => repeat (first | (with_reducible first | exact HB.out | apply below_alloc | apply pw_below_drewN | apply below_drew1 | refine below_set ?_ (IsS106.ge HI0.out)) | exact HB.out)); rintro e w8 ⟨rfl, hi, hb, hk⟩; refine ⟨_, rfl, ?_⟩; have n0_ := Aside0.mk (Kd.R_mono (Kd.R_keep (IsS106.apart (show IsS106 w0 _ g s0_0 s0_1 from by repeat (first | (with_reducible first | exact HI0.out | apply IsS106.alloc | apply IsS106.drewN | apply IsS106.drew | apply IsS106.set_1) | exact HI0.out)) (by (with_reducible repeat (first | apply Kd.R_alloc | apply Kd.R_drewN | apply Kd.R_drew)); exact HO267.out) (by decide)) hk (fun _ h => h.2)) (fun _ h => h.1)); have n1_ := Aside0.mk (KeepBut.trans (by repeat (first | (with_reducible first | exact HK.out | apply KeepBut.set_ | apply keep_drewN | apply keep_drew | apply keep_alloc) | exact HK.out)) hk (.inl rfl)); have n2_ := Aside0.mk (hb); have n3_ := Aside0.mk (hi); clear HO267; clear HK; clear HB; clear HI0; have HO267 := n0_; have HK := n1_; have HB := n2_; have HI0 := n3_; clear n0_ n1_ n2_ n3_; (try clear hb); (try clear hb2); (try clear hk); (try clear hi)))
   go_loopg [5, 6] k (fun kq v5 v6 w' => ∃ (x5_1 : List ByteArray) (x6_1 : Int) (x1001_1 : Int), v6 = .int .i64 x6_1 ∧ Aside0 (spec_l30Turn.l0 kq x5_1 x6_1 s0_0 x1001_1 = some (r1, r2)) ∧ Aside0 (kq ≤ k) ∧ Aside0 (Kd.R Kd.string 9 w' w.heap.size (fun _ => True) v5 x5_1) ∧ Aside0 (IsS106 w0 w' g s0_0 x1001_1) ∧ Aside0 (KeepBut w w' g none) ∧ Aside0 (Below w0.heap.size w0 w'))
   case atStart => exact ⟨(y265), (t268), (t269), (by first | rfl | (simp; done) | (simp [*]; done)), H', ⟨Nat.le_refl _⟩, ⟨by (with_reducible repeat (first | apply Kd.R_alloc | apply Kd.R_drewN | apply Kd.R_drew)); exact HO267.out⟩, ⟨by repeat (first | (with_reducible first | exact HI0.out | apply IsS106.alloc | apply IsS106.drewN | apply IsS106.drew | apply IsS106.set_1) | exact HI0.out)⟩, ⟨by repeat (first | (with_reducible first | exact HK.out | apply KeepBut.set_ | apply keep_drewN | apply keep_drew | apply keep_alloc) | exact HK.out)⟩, ⟨by repeat (first | (with_reducible first | exact HB.out | apply below_alloc | apply pw_below_drewN | apply below_drew1 | refine below_set ?_ (IsS106.ge HI0.out)) | exact HB.out)⟩⟩
   case round =>
    clear H'
    try clear c1
    try clear p2
    try clear c3
    try clear c8
    obtain ⟨x5_1, x6_1, x1001_1, rfl, HA, HK1, HO_5, HI0, HK, HB⟩ := hrel
    cases gk with
    | zero => exact absurd HA.out (by simp [spec_l30Turn.l0])
    | succ k1 =>
     have H := HA.out
     clear HA
     simp only [spec_l30Turn.l0] at H
     by_cases c9 : x6_1 > 0
     · rw [if_pos c9] at H
       have c9b0 : decide (0 < x6_1) = true := decide_eq_true c9
       clear c9
       replace H := Option.bind_eq_some_iff.mp H
       obtain ⟨⟨t270, t271⟩, A100, H⟩ := H
       replace H : ((spec_l30Rd_pick.f k1 s0_0 t271 3).bind fun bt272 => (if bt272.1 = 0 then (if (x5_1.length : Int) < 10 then ((some (([] : List ByteArray) : List ByteArray)).bind fun y274 => (if 0 ≤ t270 then (if t270 ≤ (x5_1.length : Int) then ((some (x5_1.take (t270 : Int).toNat : List ByteArray)).bind fun y277 => (if y274.length + y277.length < 8796093022208 then ((some (y274 ++ y277 : List ByteArray)).bind fun y281 => ((spec_l30Line.f k1 s0_0 bt272.2).bind fun bt284 => (if y281.length < 8796093022208 then ((some (y281 ++ [bt284.1] : List ByteArray)).bind fun y286 => ((some (x5_1.drop (t270 : Int).toNat : List ByteArray)).bind fun y289 => (if y286.length + y289.length < 8796093022208 then (spec_l30Turn.l0 k1 (y286 ++ y289) (wrap64 (x6_1 - 1)) s0_0 bt284.2) else (none)))) else (none)))) else (none))) else (none)) else (none))) else (spec_l30Turn.l0 k1 x5_1 (wrap64 (x6_1 - 1)) s0_0 bt272.2)) else (if bt272.1 = 1 then (if t270 < (x5_1.length : Int) then ((some (([] : List ByteArray) : List ByteArray)).bind fun y296 => (if 0 ≤ t270 then (if t270 ≤ (x5_1.length : Int) then ((some (x5_1.take (t270 : Int).toNat : List ByteArray)).bind fun y299 => (if y296.length + y299.length < 8796093022208 then ((some (y296 ++ y299 : List ByteArray)).bind fun y303 => (if 0 ≤ (wrap64 (t270 + 1)) then (if (wrap64 (t270 + 1)) ≤ (x5_1.length : Int) then ((some (x5_1.drop ((wrap64 (t270 + 1)) : Int).toNat : List ByteArray)).bind fun y306 => (if y303.length + y306.length < 8796093022208 then (spec_l30Turn.l0 k1 (y303 ++ y306) (wrap64 (x6_1 - 1)) s0_0 bt272.2) else (none))) else (none)) else (none))) else (none))) else (none)) else (none))) else (spec_l30Turn.l0 k1 x5_1 (wrap64 (x6_1 - 1)) s0_0 bt272.2)) else (if t270 < (x5_1.length : Int) then ((spec_l30Line.f k1 s0_0 bt272.2).bind fun bt313 => (if 0 ≤ t270 then (spec_l30Turn.l0 k1 (x5_1.set (t270 : Int).toNat bt313.1) (wrap64 (x6_1 - 1)) s0_0 bt313.2) else (none))) else (spec_l30Turn.l0 k1 x5_1 (wrap64 (x6_1 - 1)) s0_0 bt272.2))))) = some (r1, r2) := H
       have A10 := Aside0.mk A100
       clear A100
       replace H := Option.bind_eq_some_iff.mp H
       obtain ⟨⟨t272, t273⟩, A110, H⟩ := H
       replace H : (if t272 = 0 then (if (x5_1.length : Int) < 10 then ((some (([] : List ByteArray) : List ByteArray)).bind fun y274 => (if 0 ≤ t270 then (if t270 ≤ (x5_1.length : Int) then ((some (x5_1.take (t270 : Int).toNat : List ByteArray)).bind fun y277 => (if y274.length + y277.length < 8796093022208 then ((some (y274 ++ y277 : List ByteArray)).bind fun y281 => ((spec_l30Line.f k1 s0_0 t273).bind fun bt284 => (if y281.length < 8796093022208 then ((some (y281 ++ [bt284.1] : List ByteArray)).bind fun y286 => ((some (x5_1.drop (t270 : Int).toNat : List ByteArray)).bind fun y289 => (if y286.length + y289.length < 8796093022208 then (spec_l30Turn.l0 k1 (y286 ++ y289) (wrap64 (x6_1 - 1)) s0_0 bt284.2) else (none)))) else (none)))) else (none))) else (none)) else (none))) else (spec_l30Turn.l0 k1 x5_1 (wrap64 (x6_1 - 1)) s0_0 t273)) else (if t272 = 1 then (if t270 < (x5_1.length : Int) then ((some (([] : List ByteArray) : List ByteArray)).bind fun y296 => (if 0 ≤ t270 then (if t270 ≤ (x5_1.length : Int) then ((some (x5_1.take (t270 : Int).toNat : List ByteArray)).bind fun y299 => (if y296.length + y299.length < 8796093022208 then ((some (y296 ++ y299 : List ByteArray)).bind fun y303 => (if 0 ≤ (wrap64 (t270 + 1)) then (if (wrap64 (t270 + 1)) ≤ (x5_1.length : Int) then ((some (x5_1.drop ((wrap64 (t270 + 1)) : Int).toNat : List ByteArray)).bind fun y306 => (if y303.length + y306.length < 8796093022208 then (spec_l30Turn.l0 k1 (y303 ++ y306) (wrap64 (x6_1 - 1)) s0_0 t273) else (none))) else (none)) else (none))) else (none))) else (none)) else (none))) else (spec_l30Turn.l0 k1 x5_1 (wrap64 (x6_1 - 1)) s0_0 t273)) else (if t270 < (x5_1.length : Int) then ((spec_l30Line.f k1 s0_0 t273).bind fun bt313 => (if 0 ≤ t270 then (spec_l30Turn.l0 k1 (x5_1.set (t270 : Int).toNat bt313.1) (wrap64 (x6_1 - 1)) s0_0 bt313.2) else (none))) else (spec_l30Turn.l0 k1 x5_1 (wrap64 (x6_1 - 1)) s0_0 t273)))) = some (r1, r2) := H
       have A11 := Aside0.mk A110
       clear A110
       by_cases c12 : t272 = 0
       · rw [if_pos c12] at H
         have c12b0 : (t272 == 0) = true := beq_iff_eq.mpr c12
         have c12b1 : (t272 != 0) = false := bne_eq_false_iff_eq.mpr c12
         clear c12
         by_cases c13 : (x5_1.length : Int) < 10
         · rw [if_pos c13] at H
           have c13b0 : decide ((x5_1.length : Int) < 10) = true := decide_eq_true c13
           have c13b1 : decide (x5_1.length < 10) = true := decide_eq_true (by omega)
           clear c13
           obtain ⟨y274, hy274⟩ : ∃ y_ : List ByteArray, y_ = (([] : List ByteArray)) := ⟨_, rfl⟩
           replace H : (if 0 ≤ t270 then (if t270 ≤ (x5_1.length : Int) then ((some (x5_1.take (t270 : Int).toNat : List ByteArray)).bind fun y277 => (if y274.length + y277.length < 8796093022208 then ((some (y274 ++ y277 : List ByteArray)).bind fun y281 => ((spec_l30Line.f k1 s0_0 t273).bind fun bt284 => (if y281.length < 8796093022208 then ((some (y281 ++ [bt284.1] : List ByteArray)).bind fun y286 => ((some (x5_1.drop (t270 : Int).toNat : List ByteArray)).bind fun y289 => (if y286.length + y289.length < 8796093022208 then (spec_l30Turn.l0 k1 (y286 ++ y289) (wrap64 (x6_1 - 1)) s0_0 bt284.2) else (none)))) else (none)))) else (none))) else (none)) else (none)) = some (r1, r2) := by first | (rw [hy274]; with_reducible exact H) | (have H2_ := (Option.bind_some _ _).symm.trans H; rw [hy274]; with_reducible exact H2_) | (have H2_ := (Option.bind_some _ _).symm.trans H; with_reducible exact H2_) | with_reducible exact H | (rw [hy274]; exact H) | exact H
           have Ny274 := Aside0.mk hy274
           clear hy274
           by_cases c14 : 0 ≤ t270
           · rw [if_pos c14] at H
             have c14b0 := eq_true c14
             have c14b1 : decide (0 ≤ t270) = true := decide_eq_true c14
             clear c14
             by_cases c15 : t270 ≤ (x5_1.length : Int)
             · rw [if_pos c15] at H
               have c15b0 := eq_true c15
               have c15b1 : decide (t270 ≤ (x5_1.length : Int)) = true := decide_eq_true c15
               clear c15
               obtain ⟨y277, hy277⟩ : ∃ y_ : List ByteArray, y_ = (x5_1.take (t270 : Int).toNat) := ⟨_, rfl⟩
               replace H : (if y274.length + y277.length < 8796093022208 then ((some (y274 ++ y277 : List ByteArray)).bind fun y281 => ((spec_l30Line.f k1 s0_0 t273).bind fun bt284 => (if y281.length < 8796093022208 then ((some (y281 ++ [bt284.1] : List ByteArray)).bind fun y286 => ((some (x5_1.drop (t270 : Int).toNat : List ByteArray)).bind fun y289 => (if y286.length + y289.length < 8796093022208 then (spec_l30Turn.l0 k1 (y286 ++ y289) (wrap64 (x6_1 - 1)) s0_0 bt284.2) else (none)))) else (none)))) else (none)) = some (r1, r2) := by first | (rw [hy277]; with_reducible exact H) | (have H2_ := (Option.bind_some _ _).symm.trans H; rw [hy277]; with_reducible exact H2_) | (have H2_ := (Option.bind_some _ _).symm.trans H; with_reducible exact H2_) | with_reducible exact H | (rw [hy277]; exact H) | exact H
               have Ny277 := Aside0.mk hy277
               clear hy277
               by_cases c16 : y274.length + y277.length < 8796093022208
               · rw [if_pos c16] at H
                 have LMc16 := Aside0.mk c16
                 clear c16
                 obtain ⟨y281, hy281⟩ : ∃ y_ : List ByteArray, y_ = (y274 ++ y277) := ⟨_, rfl⟩
                 replace H : ((spec_l30Line.f k1 s0_0 t273).bind fun bt284 => (if y281.length < 8796093022208 then ((some (y281 ++ [bt284.1] : List ByteArray)).bind fun y286 => ((some (x5_1.drop (t270 : Int).toNat : List ByteArray)).bind fun y289 => (if y286.length + y289.length < 8796093022208 then (spec_l30Turn.l0 k1 (y286 ++ y289) (wrap64 (x6_1 - 1)) s0_0 bt284.2) else (none)))) else (none))) = some (r1, r2) := by first | (rw [hy281]; with_reducible exact H) | (have H2_ := (Option.bind_some _ _).symm.trans H; rw [hy281]; with_reducible exact H2_) | (have H2_ := (Option.bind_some _ _).symm.trans H; with_reducible exact H2_) | with_reducible exact H | (rw [hy281]; exact H) | exact H
                 have Ny281 := Aside0.mk hy281
                 clear hy281
                 replace H := Option.bind_eq_some_iff.mp H
                 obtain ⟨⟨t284, t285⟩, A170, H⟩ := H
                 replace H : (if y281.length < 8796093022208 then ((some (y281 ++ [t284] : List ByteArray)).bind fun y286 => ((some (x5_1.drop (t270 : Int).toNat : List ByteArray)).bind fun y289 => (if y286.length + y289.length < 8796093022208 then (spec_l30Turn.l0 k1 (y286 ++ y289) (wrap64 (x6_1 - 1)) s0_0 t285) else (none)))) else (none)) = some (r1, r2) := H
                 have A17 := Aside0.mk A170
                 clear A170
                 by_cases c18 : y281.length < 8796093022208
                 · rw [if_pos c18] at H
                   have LMc18 := Aside0.mk c18
                   clear c18
                   obtain ⟨y286, hy286⟩ : ∃ y_ : List ByteArray, y_ = (y281 ++ [t284]) := ⟨_, rfl⟩
                   replace H : ((some (x5_1.drop (t270 : Int).toNat : List ByteArray)).bind fun y289 => (if y286.length + y289.length < 8796093022208 then (spec_l30Turn.l0 k1 (y286 ++ y289) (wrap64 (x6_1 - 1)) s0_0 t285) else (none))) = some (r1, r2) := by first | (rw [hy286]; with_reducible exact H) | (have H2_ := (Option.bind_some _ _).symm.trans H; rw [hy286]; with_reducible exact H2_) | (have H2_ := (Option.bind_some _ _).symm.trans H; with_reducible exact H2_) | with_reducible exact H | (rw [hy286]; exact H) | exact H
                   have Ny286 := Aside0.mk hy286
                   clear hy286
                   have c19b0 := eq_true (of_decide_eq_true (by assumption) : 0 ≤ t270)
                   have c20b0 := eq_true (of_decide_eq_true (by assumption) : t270 ≤ (x5_1.length : Int))
                   obtain ⟨y289, hy289⟩ : ∃ y_ : List ByteArray, y_ = (x5_1.drop (t270 : Int).toNat) := ⟨_, rfl⟩
                   replace H : (if y286.length + y289.length < 8796093022208 then (spec_l30Turn.l0 k1 (y286 ++ y289) (wrap64 (x6_1 - 1)) s0_0 t285) else (none)) = some (r1, r2) := by first | (rw [hy289]; with_reducible exact H) | (have H2_ := (Option.bind_some _ _).symm.trans H; rw [hy289]; with_reducible exact H2_) | (have H2_ := (Option.bind_some _ _).symm.trans H; with_reducible exact H2_) | with_reducible exact H | (rw [hy289]; exact H) | exact H
                   have Ny289 := Aside0.mk hy289
                   clear hy289
                   by_cases c21 : y286.length + y289.length < 8796093022208
                   · rw [if_pos c21] at H
                     have LMc21 := Aside0.mk c21
                     clear c21
                     obtain ⟨y293, hy293⟩ : ∃ y_ : List ByteArray, y_ = (y286 ++ y289) := ⟨_, rfl⟩
                     replace H : (spec_l30Turn.l0 k1 y293 (wrap64 (x6_1 - 1)) s0_0 t285) = some (r1, r2) := by first | (rw [hy293]; with_reducible exact H) | (have H2_ := (Option.bind_some _ _).symm.trans H; rw [hy293]; with_reducible exact H2_) | (have H2_ := (Option.bind_some _ _).symm.trans H; with_reducible exact H2_) | with_reducible exact H | (rw [hy293]; exact H) | exact H
                     have Ny293 := Aside0.mk hy293
                     clear hy293
                     have H' := Aside0.mk H
                     clear H
                     obtain ⟨Ao22, co22, eo22⟩ := Kd.R_slice HO_5.out
                     subst eo22
                     go_wp2_with (first | ((with_reducible refine gate_callee (f := 81) rfl ?_); refine goesL_ (some 22) rfl rfl Try.func81 (by kernel_rfl) rfl #[.pointer (some ⟨g, 0, none⟩), .int .i64 (wrap64 ((x5_1.length : Int) + 1))] rfl (by (try simp only [List.map_toArray, List.map_cons, List.map_nil]); first | done | rfl | (simp only [List.length_drop, List.length_take]; rfl)) ?_; (with_reducible refine (spec_l30Rd_pick.calls k1 g s0_0 x1001_1 (wrap64 ((x5_1.length : Int) + 1)) t270 t271 w0 _ ?side1 ?side2 A10.out).mono ?_); (case side1 => repeat (first | (with_reducible first | exact HI0.out | apply IsS106.alloc | apply IsS106.drewN | apply IsS106.drew | apply IsS106.set_1) | exact HI0.out)); (case side2 => repeat (first | (with_reducible first | exact HB.out | apply below_alloc | apply pw_below_drewN | apply below_drew1 | refine below_set ?_ (IsS106.ge HI0.out)) | exact HB.out)); rintro e w23 ⟨rfl, hi, hb, hk⟩; refine ⟨_, rfl, ?_⟩; have n0_ := Aside0.mk (Kd.R_mono (Kd.R_keep (IsS106.apart (show IsS106 w0 _ g s0_0 x1001_1 from by repeat (first | (with_reducible first | exact HI0.out | apply IsS106.alloc | apply IsS106.drewN | apply IsS106.drew | apply IsS106.set_1) | exact HI0.out)) (by (with_reducible repeat (first | apply Kd.R_alloc | apply Kd.R_drewN | apply Kd.R_drew)); exact HO_5.out) (by decide)) hk (fun _ h => h.2)) (fun _ h => h.1)); have n1_ := Aside0.mk (KeepBut.trans (by repeat (first | (with_reducible first | exact HK.out | apply KeepBut.set_ | apply keep_drewN | apply keep_drew | apply keep_alloc) | exact HK.out)) hk (.inl rfl)); have n2_ := Aside0.mk (hb); have n3_ := Aside0.mk (hi); clear HO_5; clear HK; clear HB; clear HI0; have HO_5 := n0_; have HK := n1_; have HB := n2_; have HI0 := n3_; clear n0_ n1_ n2_ n3_; (try clear hb); (try clear hb2); (try clear hk); (try clear hi)) | ((with_reducible refine gate_callee (f := 81) rfl ?_); refine goesL_ (some 24) rfl rfl Try.func81 (by kernel_rfl) rfl #[.pointer (some ⟨g, 0, none⟩), .int .i64 3] rfl (by (try simp only [List.map_toArray, List.map_cons, List.map_nil]); first | done | rfl | (simp only [List.length_drop, List.length_take]; rfl)) ?_; (with_reducible refine (spec_l30Rd_pick.calls k1 g s0_0 t271 3 t272 t273 w0 _ ?side1 ?side2 A11.out).mono ?_); (case side1 => repeat (first | (with_reducible first | exact HI0.out | apply IsS106.alloc | apply IsS106.drewN | apply IsS106.drew | apply IsS106.set_1) | exact HI0.out)); (case side2 => repeat (first | (with_reducible first | exact HB.out | apply below_alloc | apply pw_below_drewN | apply below_drew1 | refine below_set ?_ (IsS106.ge HI0.out)) | exact HB.out)); rintro e w24 ⟨rfl, hi, hb, hk⟩; refine ⟨_, rfl, ?_⟩; have n0_ := Aside0.mk (Kd.R_mono (Kd.R_keep (IsS106.apart (show IsS106 w0 _ g s0_0 t271 from by repeat (first | (with_reducible first | exact HI0.out | apply IsS106.alloc | apply IsS106.drewN | apply IsS106.drew | apply IsS106.set_1) | exact HI0.out)) (by (with_reducible repeat (first | apply Kd.R_alloc | apply Kd.R_drewN | apply Kd.R_drew)); exact HO_5.out) (by decide)) hk (fun _ h => h.2)) (fun _ h => h.1)); have n1_ := Aside0.mk (KeepBut.trans (by repeat (first | (with_reducible first | exact HK.out | apply KeepBut.set_ | apply keep_drewN | apply keep_drew | apply keep_alloc) | exact HK.out)) hk (.inl rfl)); have n2_ := Aside0.mk (hb); have n3_ := Aside0.mk (hi); clear HO_5; clear HK; clear HB; clear HI0; have HO_5 := n0_; have HK := n1_; have HB := n2_; have HI0 := n3_; clear n0_ n1_ n2_ n3_; (try clear hb); (try clear hb2); (try clear hk); (try clear hi)) | ((with_reducible refine gate_dst (N := 39) rfl ?_); refine Kd.R_lit Kd.string _ 9 ?hg (N := 39) ?hd (xs := ([] : List ByteArray)) (inner := []) (ok := fun _ => True) (okp := fun _ => True) ?hr ?hp (fun _ hk => hk) trivial (Below.refl _ _) (Nat.le_refl _) (by simp) ?_; (case hd => rfl); (case hg => rfl); (case hr => first | (go_simp; done) | (go_simp; rfl)); (case hp => exact (Reps.none _ _)); intro v275 w25 ho26 hb hg_ hnew_; clear hg_ hnew_; (first | rw [← Ny274.out] at ho26 | (simp only [Int.reduceToNat] at ho26; rw [← Ny274.out] at ho26)); have n0_ := Aside0.mk (Kd.R_elder' (by (with_reducible repeat (first | apply Kd.R_alloc | apply Kd.R_drewN | apply Kd.R_drew)); exact HO_5.out) (Kd.R_base ho26) hb); have n1_ := Aside0.mk (Kd.R_lower (Kd.R_new' ho26 (Kd.R_lt (by (with_reducible repeat (first | apply Kd.R_alloc | apply Kd.R_drewN | apply Kd.R_drew)); exact HO_5.out))) (keep_size (w := w) (g := g) (row := none) (by repeat (first | (with_reducible first | exact HK.out | apply KeepBut.set_ | apply keep_drewN | apply keep_drew | apply keep_alloc) | exact HK.out)))); have n2_ := Aside0.mk (IsS106.below (by repeat (first | (with_reducible first | exact HI0.out | apply IsS106.alloc | apply IsS106.drewN | apply IsS106.drew | apply IsS106.set_1) | exact HI0.out)) hb); have n3_ := Aside0.mk (KeepBut.trans (by repeat (first | (with_reducible first | exact HK.out | apply KeepBut.set_ | apply keep_drewN | apply keep_drew | apply keep_alloc) | exact HK.out)) (KeepBut.of_below hb g none) (.inl rfl)); have n4_ := Aside0.mk (below_step (by repeat (first | (with_reducible first | exact HB.out | apply below_alloc | apply pw_below_drewN | apply below_drew1 | refine below_set ?_ (IsS106.ge HI0.out)) | exact HB.out)) hb); clear HO_5; clear HI0; clear HK; clear HB; have HO_5 := n0_; have HO276 := n1_; have HI0 := n2_; have HK := n3_; have HB := n4_; clear n0_ n1_ n2_ n3_ n4_; clear hb ho26; have q27 : (t270 : Int) ≤ ((x5_1.length : Int) : Int) := of_decide_eq_true (by assumption); obtain ⟨i027, hi027, _, hsz27, _⟩ := info_parts info9; have hroom27 : x5_1.length ≤ co22 := (Kd.R_reads' HO_5.out).2.1; have hC27 : Kd.C Kd.string _ Ao22 x5_1.length x5_1 := (Kd.R_reads' HO_5.out).2.2; have hcut27 := cut_to (P := Try.prog) 30 9 .i64 Try.underlying30 hi027 Ao22 x5_1.length co22 t270 (of_decide_eq_true (by assumption)) q27 hroom27; have hr27 := Kd.C_take (m := (t270 : Int).toNat) hC27 (by omega); have hy27 : y277.length = (t270 : Int).toNat := (by rw [Ny277.out, List.length_take]; omega); rw [← Ny277.out] at hr27; rw [← hy27] at hcut27; have HR280 := Aside0.mk hr27; have HC280 := Aside0.mk (show y277.length ≤ co22 from by omega); clear hr27 hC27 hroom27 hi027 hsz27; have KY27 := Aside0.mk hy27; clear hy27; have KL27 := Aside0.mk (show (t270 : Int).toNat ≤ x5_1.length from by omega); replace q27 := eq_true q27) | ((with_reducible refine gate_builtin (b := .append) (xs := #[.tmp 39, .tmp 42]) rfl ?_); at_builtin; refine Kd.R_append_rows Kd.string w.heap.size rfl (.tmp 39) (.tmp 42) 30 9 (.string ⟨#[]⟩) 16 rfl Try.underlying30 info9 rfl (by decide) (by omega) v275 y274 y277 _ _ _ (fun k_ => some k_ ≠ (.slice Ao22 x5_1.length co22 : Value).ownBlock) (fun _ => False) rfl rfl ?aO ?aR (fun _ _ h => h) (fun _ h => h.elim) ?aF (Below.refl _ _) ?aS ?aL ?_; (case aR => repeat (first | exact (by repeat (first | (with_reducible exact HR280.out) | (with_reducible refine Kd.C_alloc ?_ _) | (with_reducible refine Kd.C_drewN ?_ _) | (with_reducible refine Kd.C_drew ?_) | exact HR280.out)) | (with_reducible refine Kd.C_alloc ?_ _) | (with_reducible refine Kd.C_drewN ?_ _) | (with_reducible refine Kd.C_drew ?_))); (case aF => exact (fun k_ hk => Kd.fresh' (Kd.R_lt (by (with_reducible repeat (first | apply Kd.R_alloc | apply Kd.R_drewN | apply Kd.R_drew)); exact HO_5.out)) k_ hk)); (case aO => exact (by (with_reducible repeat (first | apply Kd.R_alloc | apply Kd.R_drewN | apply Kd.R_drew)); exact Kd.R_mono HO276.out (fun _ hk => hk.2))); (case aS => exact (keep_size (w := w) (g := g) (row := none) (by repeat (first | (with_reducible first | exact HK.out | apply KeepBut.set_ | apply keep_drewN | apply keep_drew | apply keep_alloc) | exact HK.out)))); (case aL => have := LMc16.out; omega); intro v282 w28 ho hb hg hat; rw [← Ny281.out] at ho; have n0_ := Aside0.mk (Kd.R_after (ok := (fun _ => True)) (by (with_reducible repeat (first | apply Kd.R_alloc | apply Kd.R_drewN | apply Kd.R_drew)); exact HO_5.out) hg hat); have n1_ := Aside0.mk (IsS106.grown (by repeat (first | (with_reducible first | exact HI0.out | apply IsS106.alloc | apply IsS106.drewN | apply IsS106.drew | apply IsS106.set_1) | exact HI0.out)) hg (IsS106.own_ne HI0.out HO276.out (by decide))); have n2_ := Aside0.mk (below_weaken (by repeat (first | (with_reducible first | exact HB.out | apply below_alloc | apply pw_below_drewN | apply below_drew1 | refine below_set ?_ (IsS106.ge HI0.out)) | exact HB.out)) HL.out hb); have n3_ := Aside0.mk (KeepBut.trans (by repeat (first | (with_reducible first | exact HK.out | apply KeepBut.set_ | apply keep_drewN | apply keep_drew | apply keep_alloc) | exact HK.out)) (KeepBut.of_grown hg g) (Kd.R_base2 HO276.out)); have n4_ := Aside0.mk ((show Kd.C Kd.string w28 Ao22 y277.length y277 from by rw [Ny277.out]; exact Kd.C_take (m := (t270 : Int).toNat) ((Kd.R_reads' (Kd.R_after (ok := (fun _ => True)) (by (with_reducible repeat (first | apply Kd.R_alloc | apply Kd.R_drewN | apply Kd.R_drew)); exact HO_5.out) hg hat)).2.2) KL27.out)); have n5_ := Aside0.mk (ho); clear HO_5; clear HI0; clear HB; clear HK; clear HR280; clear HO276; have HO_5 := n0_; have HI0 := n1_; have HB := n2_; have HK := n3_; have HR280 := n4_; have HO283 := n5_; clear n0_ n1_ n2_ n3_ n4_ n5_; clear ho hb hg hat) | ((with_reducible refine gate_callee (f := 109) rfl ?_); refine goesL_ (some 46) rfl rfl Try.func109 (by kernel_rfl) rfl #[.pointer (some ⟨g, 0, none⟩)] rfl (by (try simp only [List.map_toArray, List.map_cons, List.map_nil]); first | done | rfl | (simp only [List.length_drop, List.length_take]; rfl)) ?_; (with_reducible refine (spec_l30Line.calls k1 g s0_0 t273 t284 t285 w0 _ ?side1 ?side2 A17.out).mono ?_); (case side1 => repeat (first | (with_reducible first | exact HI0.out | apply IsS106.alloc | apply IsS106.drewN | apply IsS106.drew | apply IsS106.set_1) | exact HI0.out)); (case side2 => repeat (first | (with_reducible first | exact HB.out | apply below_alloc | apply pw_below_drewN | apply below_drew1 | refine below_set ?_ (IsS106.ge HI0.out)) | exact HB.out)); rintro e w29 ⟨rfl, hi, hb, hk⟩; refine ⟨_, rfl, ?_⟩; have n0_ := Aside0.mk (Kd.R_mono (Kd.R_keep (IsS106.apart (show IsS106 w0 _ g s0_0 t273 from by repeat (first | (with_reducible first | exact HI0.out | apply IsS106.alloc | apply IsS106.drewN | apply IsS106.drew | apply IsS106.set_1) | exact HI0.out)) (by (with_reducible repeat (first | apply Kd.R_alloc | apply Kd.R_drewN | apply Kd.R_drew)); exact HO_5.out) (by decide)) hk (fun _ h => h.2)) (fun _ h => h.1)); have n1_ := Aside0.mk (Kd.R_mono (Kd.R_keep (IsS106.apart (show IsS106 w0 _ g s0_0 t273 from by repeat (first | (with_reducible first | exact HI0.out | apply IsS106.alloc | apply IsS106.drewN | apply IsS106.drew | apply IsS106.set_1) | exact HI0.out)) (by (with_reducible repeat (first | apply Kd.R_alloc | apply Kd.R_drewN | apply Kd.R_drew)); exact HO283.out) (by decide)) hk (fun _ h => h.2)) (fun _ h => h.1)); have n2_ := Aside0.mk (KeepBut.trans (by repeat (first | (with_reducible first | exact HK.out | apply KeepBut.set_ | apply keep_drewN | apply keep_drew | apply keep_alloc) | exact HK.out)) hk (.inl rfl)); have n3_ := Aside0.mk (hb); have n4_ := Aside0.mk (hi); clear HO_5; clear HO283; clear HK; clear HB; clear HI0; have HO_5 := n0_; have HO283 := n1_; have HK := n2_; have HB := n3_; have HI0 := n4_; clear n0_ n1_ n2_ n3_ n4_; (try clear hb); (try clear hb2); (try clear hk); (try clear hi)) | ((with_reducible refine gate_builtin (b := .append) (xs := #[.tmp 44, .tmp 47]) rfl ?_); at_builtin; refine Kd.R_append Kd.string w.heap.size rfl (.tmp 44) (.tmp 47) 30 9 (.string ⟨#[]⟩) 16 rfl Try.underlying30 info9 rfl (by decide) (by omega) v282 y281 t284 [.string t284] (fun k_ => some k_ ≠ (.slice Ao22 x5_1.length co22 : Value).ownBlock) (fun _ => False) rfl rfl ?aP (fun _ hk => hk.elim) ?aF ?aO (Below.refl _ _) ?aS ?aL ?_; (case aP => exact rfl); (case aF => exact (fun k_ hk => Kd.fresh' (Kd.R_lt (by (with_reducible repeat (first | apply Kd.R_alloc | apply Kd.R_drewN | apply Kd.R_drew)); exact HO_5.out)) k_ hk)); (case aO => exact (by (with_reducible repeat (first | apply Kd.R_alloc | apply Kd.R_drewN | apply Kd.R_drew)); exact HO283.out)); (case aS => exact (keep_size (w := w) (g := g) (row := none) (by repeat (first | (with_reducible first | exact HK.out | apply KeepBut.set_ | apply keep_drewN | apply keep_drew | apply keep_alloc) | exact HK.out)))); (case aL => have := LMc18.out; omega); intro v287 w30 ho hb hg hat; rw [← Ny286.out] at ho; have n0_ := Aside0.mk (Kd.R_after (ok := (fun _ => True)) (by (with_reducible repeat (first | apply Kd.R_alloc | apply Kd.R_drewN | apply Kd.R_drew)); exact HO_5.out) hg hat); have n1_ := Aside0.mk (IsS106.grown (by repeat (first | (with_reducible first | exact HI0.out | apply IsS106.alloc | apply IsS106.drewN | apply IsS106.drew | apply IsS106.set_1) | exact HI0.out)) hg (IsS106.own_ne HI0.out HO283.out (by decide))); have n2_ := Aside0.mk (below_weaken (by repeat (first | (with_reducible first | exact HB.out | apply below_alloc | apply pw_below_drewN | apply below_drew1 | refine below_set ?_ (IsS106.ge HI0.out)) | exact HB.out)) HL.out hb); have n3_ := Aside0.mk (KeepBut.trans (by repeat (first | (with_reducible first | exact HK.out | apply KeepBut.set_ | apply keep_drewN | apply keep_drew | apply keep_alloc) | exact HK.out)) (KeepBut.of_grown hg g) (Kd.R_base2 HO283.out)); have n4_ := Aside0.mk (ho); clear HO_5; clear HI0; clear HB; clear HK; clear HO283; have HO_5 := n0_; have HI0 := n1_; have HB := n2_; have HK := n3_; have HO288 := n4_; clear n0_ n1_ n2_ n3_ n4_; clear ho hb hg hat; have q31 : (t270 : Int) ≤ ((x5_1.length : Int) : Int) := of_decide_eq_true (by assumption); obtain ⟨i031, hi031, _, hsz31, _⟩ := info_parts info9; have hroom31 : x5_1.length ≤ co22 := (Kd.R_reads' HO_5.out).2.1; have hC31 : Kd.C Kd.string _ Ao22 x5_1.length x5_1 := (Kd.R_reads' HO_5.out).2.2; have q031 : (0 : Int) ≤ (t270 : Int) := of_decide_eq_true (by assumption); have hcut31 := cut_from (P := Try.prog) 30 9 .i64 Try.underlying30 hi031 1 hsz31 Ao22 x5_1.length co22 t270 q031 q31; have hr31 := Kd.C_drop (m := (t270 : Int).toNat) (c := co22) hC31 (by omega) hroom31; obtain ⟨A31, hA31⟩ : ∃ A1, A1 = (if co22 = (t270 : Int).toNat then Ao22 else (Ao22 : Option Addr).map (·.add ((t270 : Int).toNat * 1))) := ⟨_, rfl⟩; obtain ⟨c31, hc31⟩ : ∃ c1, c1 = co22 - (t270 : Int).toNat := ⟨_, rfl⟩; have hy31 : y289.length = x5_1.length - (t270 : Int).toNat := (by rw [Ny289.out, List.length_drop] <;> omega); rw [show (x5_1).drop (t270 : Int).toNat = y289 from Ny289.out.symm] at hr31; replace hr31 : Kd.C Kd.string _ A31 y289.length y289 := (by rw [hA31]; exact hr31); rw [← hy31, ← hA31, ← hc31] at hcut31; have HR292 := Aside0.mk hr31; have HC292 := Aside0.mk (show y289.length ≤ c31 from by rw [hy31, hc31]; exact Nat.sub_le_sub_right hroom31 _); clear hr31 hC31 hroom31 hi031 hsz31 hc31; have KY31 := Aside0.mk hy31; have KA31 := Aside0.mk hA31; clear hy31 hA31; have KL31 := Aside0.mk (show (t270 : Int).toNat ≤ x5_1.length from by omega); replace q31 := eq_true q31) | ((with_reducible refine gate_builtin (b := .append) (xs := #[.tmp 49, .tmp 52]) rfl ?_); at_builtin; refine Kd.R_append_rows Kd.string w.heap.size rfl (.tmp 49) (.tmp 52) 30 9 (.string ⟨#[]⟩) 16 rfl Try.underlying30 info9 rfl (by decide) (by omega) v287 y286 y289 _ _ _ (fun k_ => some k_ ≠ (.slice Ao22 x5_1.length co22 : Value).ownBlock) (fun _ => False) rfl rfl ?aO ?aR (fun _ _ h => h) (fun _ h => h.elim) ?aF (Below.refl _ _) ?aS ?aL ?_; (case aR => repeat (first | exact (by repeat (first | (with_reducible exact HR292.out) | (with_reducible refine Kd.C_alloc ?_ _) | (with_reducible refine Kd.C_drewN ?_ _) | (with_reducible refine Kd.C_drew ?_) | exact HR292.out)) | (with_reducible refine Kd.C_alloc ?_ _) | (with_reducible refine Kd.C_drewN ?_ _) | (with_reducible refine Kd.C_drew ?_))); (case aF => exact (fun k_ hk => Kd.fresh' (Kd.R_lt (by (with_reducible repeat (first | apply Kd.R_alloc | apply Kd.R_drewN | apply Kd.R_drew)); exact HO_5.out)) k_ hk)); (case aO => exact (by (with_reducible repeat (first | apply Kd.R_alloc | apply Kd.R_drewN | apply Kd.R_drew)); exact HO288.out)); (case aS => exact (keep_size (w := w) (g := g) (row := none) (by repeat (first | (with_reducible first | exact HK.out | apply KeepBut.set_ | apply keep_drewN | apply keep_drew | apply keep_alloc) | exact HK.out)))); (case aL => have := LMc21.out; omega); intro v294 w32 ho hb hg hat; rw [← Ny293.out] at ho; have n0_ := Aside0.mk (Kd.R_after (ok := (fun _ => True)) (by (with_reducible repeat (first | apply Kd.R_alloc | apply Kd.R_drewN | apply Kd.R_drew)); exact HO_5.out) hg hat); have n1_ := Aside0.mk (IsS106.grown (by repeat (first | (with_reducible first | exact HI0.out | apply IsS106.alloc | apply IsS106.drewN | apply IsS106.drew | apply IsS106.set_1) | exact HI0.out)) hg (IsS106.own_ne HI0.out HO288.out (by decide))); have n2_ := Aside0.mk (below_weaken (by repeat (first | (with_reducible first | exact HB.out | apply below_alloc | apply pw_below_drewN | apply below_drew1 | refine below_set ?_ (IsS106.ge HI0.out)) | exact HB.out)) HL.out hb); have n3_ := Aside0.mk (KeepBut.trans (by repeat (first | (with_reducible first | exact HK.out | apply KeepBut.set_ | apply keep_drewN | apply keep_drew | apply keep_alloc) | exact HK.out)) (KeepBut.of_grown hg g) (Kd.R_base2 HO288.out)); have n4_ := Aside0.mk ((show Kd.C Kd.string w32 A31 y289.length y289 from by rw [Ny289.out, KA31.out]; exact Kd.C_drop (m := (t270 : Int).toNat) (c := co22) ((Kd.R_reads' (Kd.R_after (ok := (fun _ => True)) (by (with_reducible repeat (first | apply Kd.R_alloc | apply Kd.R_drewN | apply Kd.R_drew)); exact HO_5.out) hg hat)).2.2) KL31.out ((Kd.R_reads' (Kd.R_after (ok := (fun _ => True)) (by (with_reducible repeat (first | apply Kd.R_alloc | apply Kd.R_drewN | apply Kd.R_drew)); exact HO_5.out) hg hat)).2.1))); have n5_ := Aside0.mk (ho); clear HO_5; clear HI0; clear HB; clear HK; clear HR292; clear HO288; have HO_5 := n0_; have HI0 := n1_; have HB := n2_; have HK := n3_; have HR292 := n4_; have HO295 := n5_; clear n0_ n1_ n2_ n3_ n4_ n5_; clear ho hb hg hat))
                     go_roundg k1
                     case measure => have := HK1.out; omega
                     case rel => exact ⟨(y293), (wrap64 (x6_1 - 1)), (t285), (by first | rfl | (simp; done) | (simp [*]; done)), H', ⟨by have := HK1.out; omega⟩, ⟨by (with_reducible repeat (first | apply Kd.R_alloc | apply Kd.R_drewN | apply Kd.R_drew)); exact Kd.R_mono HO295.out (fun _ hk => trivial)⟩, ⟨by repeat (first | (with_reducible first | exact HI0.out | apply IsS106.alloc | apply IsS106.drewN | apply IsS106.drew | apply IsS106.set_1) | exact HI0.out)⟩, ⟨by repeat (first | (with_reducible first | exact HK.out | apply KeepBut.set_ | apply keep_drewN | apply keep_drew | apply keep_alloc) | exact HK.out)⟩, ⟨by repeat (first | (with_reducible first | exact HB.out | apply below_alloc | apply pw_below_drewN | apply below_drew1 | refine below_set ?_ (IsS106.ge HI0.out)) | exact HB.out)⟩⟩
                   · rw [if_neg c21] at H
                     exact absurd H (by simp)
                 · rw [if_neg c18] at H
                   exact absurd H (by simp)
               · rw [if_neg c16] at H
                 exact absurd H (by simp)
             · rw [if_neg c15] at H
               exact absurd H (by simp)
           · rw [if_neg c14] at H
             exact absurd H (by simp)
         · rw [if_neg c13] at H
           have c13b0 : decide ((x5_1.length : Int) < 10) = false := decide_eq_false c13
           have c13b1 : decide (x5_1.length < 10) = false := decide_eq_false (by omega)
           clear c13
           have H' := Aside0.mk H
           clear H
           obtain ⟨Ao33, co33, eo33⟩ := Kd.R_slice HO_5.out
           subst eo33
           go_wp2_with (first | ((with_reducible refine gate_callee (f := 81) rfl ?_); refine goesL_ (some 22) rfl rfl Try.func81 (by kernel_rfl) rfl #[.pointer (some ⟨g, 0, none⟩), .int .i64 (wrap64 ((x5_1.length : Int) + 1))] rfl (by (try simp only [List.map_toArray, List.map_cons, List.map_nil]); first | done | rfl | (simp only [List.length_drop, List.length_take]; rfl)) ?_; (with_reducible refine (spec_l30Rd_pick.calls k1 g s0_0 x1001_1 (wrap64 ((x5_1.length : Int) + 1)) t270 t271 w0 _ ?side1 ?side2 A10.out).mono ?_); (case side1 => repeat (first | (with_reducible first | exact HI0.out | apply IsS106.alloc | apply IsS106.drewN | apply IsS106.drew | apply IsS106.set_1) | exact HI0.out)); (case side2 => repeat (first | (with_reducible first | exact HB.out | apply below_alloc | apply pw_below_drewN | apply below_drew1 | refine below_set ?_ (IsS106.ge HI0.out)) | exact HB.out)); rintro e w34 ⟨rfl, hi, hb, hk⟩; refine ⟨_, rfl, ?_⟩; have n0_ := Aside0.mk (Kd.R_mono (Kd.R_keep (IsS106.apart (show IsS106 w0 _ g s0_0 x1001_1 from by repeat (first | (with_reducible first | exact HI0.out | apply IsS106.alloc | apply IsS106.drewN | apply IsS106.drew | apply IsS106.set_1) | exact HI0.out)) (by (with_reducible repeat (first | apply Kd.R_alloc | apply Kd.R_drewN | apply Kd.R_drew)); exact HO_5.out) (by decide)) hk (fun _ h => h.2)) (fun _ h => h.1)); have n1_ := Aside0.mk (KeepBut.trans (by repeat (first | (with_reducible first | exact HK.out | apply KeepBut.set_ | apply keep_drewN | apply keep_drew | apply keep_alloc) | exact HK.out)) hk (.inl rfl)); have n2_ := Aside0.mk (hb); have n3_ := Aside0.mk (hi); clear HO_5; clear HK; clear HB; clear HI0; have HO_5 := n0_; have HK := n1_; have HB := n2_; have HI0 := n3_; clear n0_ n1_ n2_ n3_; (try clear hb); (try clear hb2); (try clear hk); (try clear hi)) | ((with_reducible refine gate_callee (f := 81) rfl ?_); refine goesL_ (some 24) rfl rfl Try.func81 (by kernel_rfl) rfl #[.pointer (some ⟨g, 0, none⟩), .int .i64 3] rfl (by (try simp only [List.map_toArray, List.map_cons, List.map_nil]); first | done | rfl | (simp only [List.length_drop, List.length_take]; rfl)) ?_; (with_reducible refine (spec_l30Rd_pick.calls k1 g s0_0 t271 3 t272 t273 w0 _ ?side1 ?side2 A11.out).mono ?_); (case side1 => repeat (first | (with_reducible first | exact HI0.out | apply IsS106.alloc | apply IsS106.drewN | apply IsS106.drew | apply IsS106.set_1) | exact HI0.out)); (case side2 => repeat (first | (with_reducible first | exact HB.out | apply below_alloc | apply pw_below_drewN | apply below_drew1 | refine below_set ?_ (IsS106.ge HI0.out)) | exact HB.out)); rintro e w35 ⟨rfl, hi, hb, hk⟩; refine ⟨_, rfl, ?_⟩; have n0_ := Aside0.mk (Kd.R_mono (Kd.R_keep (IsS106.apart (show IsS106 w0 _ g s0_0 t271 from by repeat (first | (with_reducible first | exact HI0.out | apply IsS106.alloc | apply IsS106.drewN | apply IsS106.drew | apply IsS106.set_1) | exact HI0.out)) (by (with_reducible repeat (first | apply Kd.R_alloc | apply Kd.R_drewN | apply Kd.R_drew)); exact HO_5.out) (by decide)) hk (fun _ h => h.2)) (fun _ h => h.1)); have n1_ := Aside0.mk (KeepBut.trans (by repeat (first | (with_reducible first | exact HK.out | apply KeepBut.set_ | apply keep_drewN | apply keep_drew | apply keep_alloc) | exact HK.out)) hk (.inl rfl)); have n2_ := Aside0.mk (hb); have n3_ := Aside0.mk (hi); clear HO_5; clear HK; clear HB; clear HI0; have HO_5 := n0_; have HK := n1_; have HB := n2_; have HI0 := n3_; clear n0_ n1_ n2_ n3_; (try clear hb); (try clear hb2); (try clear hk); (try clear hi)))
           go_roundg k1
           case measure => have := HK1.out; omega
           case rel => exact ⟨(x5_1), (wrap64 (x6_1 - 1)), (t273), (by first | rfl | (simp; done) | (simp [*]; done)), H', ⟨by have := HK1.out; omega⟩, ⟨by (with_reducible repeat (first | apply Kd.R_alloc | apply Kd.R_drewN | apply Kd.R_drew)); exact HO_5.out⟩, ⟨by repeat (first | (with_reducible first | exact HI0.out | apply IsS106.alloc | apply IsS106.drewN | apply IsS106.drew | apply IsS106.set_1) | exact HI0.out)⟩, ⟨by repeat (first | (with_reducible first | exact HK.out | apply KeepBut.set_ | apply keep_drewN | apply keep_drew | apply keep_alloc) | exact HK.out)⟩, ⟨by repeat (first | (with_reducible first | exact HB.out | apply below_alloc | apply pw_below_drewN | apply below_drew1 | refine below_set ?_ (IsS106.ge HI0.out)) | exact HB.out)⟩⟩
       · rw [if_neg c12] at H
         have c12b0 : (t272 == 0) = false := beq_eq_false_iff_ne.mpr c12
         have c12b1 : (t272 != 0) = true := bne_iff_ne.mpr c12
         by_cases c36 : t272 = 1
         · rw [if_pos c36] at H
           have c36b0 : (t272 == 1) = true := beq_iff_eq.mpr c36
           have c36b1 : (t272 != 1) = false := bne_eq_false_iff_eq.mpr c36
           clear c36
           by_cases c37 : t270 < (x5_1.length : Int)
           · rw [if_pos c37] at H
             have c37b0 : decide (t270 < (x5_1.length : Int)) = true := decide_eq_true c37
             clear c37
             obtain ⟨y296, hy296⟩ : ∃ y_ : List ByteArray, y_ = (([] : List ByteArray)) := ⟨_, rfl⟩
             replace H : (if 0 ≤ t270 then (if t270 ≤ (x5_1.length : Int) then ((some (x5_1.take (t270 : Int).toNat : List ByteArray)).bind fun y299 => (if y296.length + y299.length < 8796093022208 then ((some (y296 ++ y299 : List ByteArray)).bind fun y303 => (if 0 ≤ (wrap64 (t270 + 1)) then (if (wrap64 (t270 + 1)) ≤ (x5_1.length : Int) then ((some (x5_1.drop ((wrap64 (t270 + 1)) : Int).toNat : List ByteArray)).bind fun y306 => (if y303.length + y306.length < 8796093022208 then (spec_l30Turn.l0 k1 (y303 ++ y306) (wrap64 (x6_1 - 1)) s0_0 t273) else (none))) else (none)) else (none))) else (none))) else (none)) else (none)) = some (r1, r2) := by first | (rw [hy296]; with_reducible exact H) | (have H2_ := (Option.bind_some _ _).symm.trans H; rw [hy296]; with_reducible exact H2_) | (have H2_ := (Option.bind_some _ _).symm.trans H; with_reducible exact H2_) | with_reducible exact H | (rw [hy296]; exact H) | exact H
             have Ny296 := Aside0.mk hy296
             clear hy296
             by_cases c38 : 0 ≤ t270
             · rw [if_pos c38] at H
               have c38b0 := eq_true c38
               have c38b1 : decide (0 ≤ t270) = true := decide_eq_true c38
               clear c38
               by_cases c39 : t270 ≤ (x5_1.length : Int)
               · rw [if_pos c39] at H
                 have c39b0 := eq_true c39
                 have c39b1 : decide (t270 ≤ (x5_1.length : Int)) = true := decide_eq_true c39
                 clear c39
                 obtain ⟨y299, hy299⟩ : ∃ y_ : List ByteArray, y_ = (x5_1.take (t270 : Int).toNat) := ⟨_, rfl⟩
                 replace H : (if y296.length + y299.length < 8796093022208 then ((some (y296 ++ y299 : List ByteArray)).bind fun y303 => (if 0 ≤ (wrap64 (t270 + 1)) then (if (wrap64 (t270 + 1)) ≤ (x5_1.length : Int) then ((some (x5_1.drop ((wrap64 (t270 + 1)) : Int).toNat : List ByteArray)).bind fun y306 => (if y303.length + y306.length < 8796093022208 then (spec_l30Turn.l0 k1 (y303 ++ y306) (wrap64 (x6_1 - 1)) s0_0 t273) else (none))) else (none)) else (none))) else (none)) = some (r1, r2) := by first | (rw [hy299]; with_reducible exact H) | (have H2_ := (Option.bind_some _ _).symm.trans H; rw [hy299]; with_reducible exact H2_) | (have H2_ := (Option.bind_some _ _).symm.trans H; with_reducible exact H2_) | with_reducible exact H | (rw [hy299]; exact H) | exact H
                 have Ny299 := Aside0.mk hy299
                 clear hy299
                 by_cases c40 : y296.length + y299.length < 8796093022208
                 · rw [if_pos c40] at H
                   have LMc40 := Aside0.mk c40
                   clear c40
                   obtain ⟨y303, hy303⟩ : ∃ y_ : List ByteArray, y_ = (y296 ++ y299) := ⟨_, rfl⟩
                   replace H : (if 0 ≤ (wrap64 (t270 + 1)) then (if (wrap64 (t270 + 1)) ≤ (x5_1.length : Int) then ((some (x5_1.drop ((wrap64 (t270 + 1)) : Int).toNat : List ByteArray)).bind fun y306 => (if y303.length + y306.length < 8796093022208 then (spec_l30Turn.l0 k1 (y303 ++ y306) (wrap64 (x6_1 - 1)) s0_0 t273) else (none))) else (none)) else (none)) = some (r1, r2) := by first | (rw [hy303]; with_reducible exact H) | (have H2_ := (Option.bind_some _ _).symm.trans H; rw [hy303]; with_reducible exact H2_) | (have H2_ := (Option.bind_some _ _).symm.trans H; with_reducible exact H2_) | with_reducible exact H | (rw [hy303]; exact H) | exact H
                   have Ny303 := Aside0.mk hy303
                   clear hy303
                   obtain ⟨ji41, hji41⟩ : ∃ j_ : Int, (wrap64 (t270 + 1)) = j_ := ⟨_, rfl⟩
                   replace H : (if 0 ≤ (ji41) then (if (ji41) ≤ (x5_1.length : Int) then ((some (x5_1.drop ((ji41) : Int).toNat : List ByteArray)).bind fun y306 => (if y303.length + y306.length < 8796093022208 then (spec_l30Turn.l0 k1 (y303 ++ y306) (wrap64 (x6_1 - 1)) s0_0 t273) else (none))) else (none)) else (none)) = some (r1, r2) := by first | (rw [hji41] at H; exact H) | (simp only [hji41] at H ⊢; exact H)
                   (try rw [hji41] at A10)
                   (try rw [hji41] at A11)
                   have hji41w : (IntKind.i64.wrap (t270 + 1)) = ji41 := (i64_w _).trans hji41
                   by_cases c42 : 0 ≤ (ji41)
                   · rw [if_pos c42] at H
                     have c42b0 := eq_true c42
                     have c42b1 : decide (0 ≤ (ji41)) = true := decide_eq_true c42
                     clear c42
                     by_cases c43 : (ji41) ≤ (x5_1.length : Int)
                     · rw [if_pos c43] at H
                       have c43b0 := eq_true c43
                       have c43b1 : decide ((ji41) ≤ (x5_1.length : Int)) = true := decide_eq_true c43
                       clear c43
                       obtain ⟨y306, hy306⟩ : ∃ y_ : List ByteArray, y_ = (x5_1.drop ((ji41) : Int).toNat) := ⟨_, rfl⟩
                       replace H : (if y303.length + y306.length < 8796093022208 then (spec_l30Turn.l0 k1 (y303 ++ y306) (wrap64 (x6_1 - 1)) s0_0 t273) else (none)) = some (r1, r2) := by first | (rw [hy306]; with_reducible exact H) | (have H2_ := (Option.bind_some _ _).symm.trans H; rw [hy306]; with_reducible exact H2_) | (have H2_ := (Option.bind_some _ _).symm.trans H; with_reducible exact H2_) | with_reducible exact H | (rw [hy306]; exact H) | exact H
                       have Ny306 := Aside0.mk hy306
                       clear hy306
                       by_cases c44 : y303.length + y306.length < 8796093022208
                       · rw [if_pos c44] at H
                         have LMc44 := Aside0.mk c44
                         clear c44
                         obtain ⟨y310, hy310⟩ : ∃ y_ : List ByteArray, y_ = (y303 ++ y306) := ⟨_, rfl⟩
                         replace H : (spec_l30Turn.l0 k1 y310 (wrap64 (x6_1 - 1)) s0_0 t273) = some (r1, r2) := by first | (rw [hy310]; with_reducible exact H) | (have H2_ := (Option.bind_some _ _).symm.trans H; rw [hy310]; with_reducible exact H2_) | (have H2_ := (Option.bind_some _ _).symm.trans H; with_reducible exact H2_) | with_reducible exact H | (rw [hy310]; exact H) | exact H
                         have Ny310 := Aside0.mk hy310
                         clear hy310
                         have H' := Aside0.mk H
                         clear H
                         obtain ⟨Ao45, co45, eo45⟩ := Kd.R_slice HO_5.out
                         subst eo45
                         try go_wp2_with (first | ((with_reducible refine gate_callee (f := 81) rfl ?_); refine goesL_ (some 22) rfl rfl Try.func81 (by kernel_rfl) rfl #[.pointer (some ⟨g, 0, none⟩), .int .i64 (wrap64 ((x5_1.length : Int) + 1))] rfl (by (try simp only [List.map_toArray, List.map_cons, List.map_nil]); first | done | rfl | (simp only [List.length_drop, List.length_take]; rfl)) ?_; (with_reducible refine (spec_l30Rd_pick.calls k1 g s0_0 x1001_1 (wrap64 ((x5_1.length : Int) + 1)) t270 t271 w0 _ ?side1 ?side2 A10.out).mono ?_); (case side1 => repeat (first | (with_reducible first | exact HI0.out | apply IsS106.alloc | apply IsS106.drewN | apply IsS106.drew | apply IsS106.set_1) | exact HI0.out)); (case side2 => repeat (first | (with_reducible first | exact HB.out | apply below_alloc | apply pw_below_drewN | apply below_drew1 | refine below_set ?_ (IsS106.ge HI0.out)) | exact HB.out)); rintro e w46 ⟨rfl, hi, hb, hk⟩; refine ⟨_, rfl, ?_⟩; have n0_ := Aside0.mk (Kd.R_mono (Kd.R_keep (IsS106.apart (show IsS106 w0 _ g s0_0 x1001_1 from by repeat (first | (with_reducible first | exact HI0.out | apply IsS106.alloc | apply IsS106.drewN | apply IsS106.drew | apply IsS106.set_1) | exact HI0.out)) (by (with_reducible repeat (first | apply Kd.R_alloc | apply Kd.R_drewN | apply Kd.R_drew)); exact HO_5.out) (by decide)) hk (fun _ h => h.2)) (fun _ h => h.1)); have n1_ := Aside0.mk (KeepBut.trans (by repeat (first | (with_reducible first | exact HK.out | apply KeepBut.set_ | apply keep_drewN | apply keep_drew | apply keep_alloc) | exact HK.out)) hk (.inl rfl)); have n2_ := Aside0.mk (hb); have n3_ := Aside0.mk (hi); clear HO_5; clear HK; clear HB; clear HI0; have HO_5 := n0_; have HK := n1_; have HB := n2_; have HI0 := n3_; clear n0_ n1_ n2_ n3_; (try clear hb); (try clear hb2); (try clear hk); (try clear hi)) | ((with_reducible refine gate_callee (f := 81) rfl ?_); refine goesL_ (some 24) rfl rfl Try.func81 (by kernel_rfl) rfl #[.pointer (some ⟨g, 0, none⟩), .int .i64 3] rfl (by (try simp only [List.map_toArray, List.map_cons, List.map_nil]); first | done | rfl | (simp only [List.length_drop, List.length_take]; rfl)) ?_; (with_reducible refine (spec_l30Rd_pick.calls k1 g s0_0 t271 3 t272 t273 w0 _ ?side1 ?side2 A11.out).mono ?_); (case side1 => repeat (first | (with_reducible first | exact HI0.out | apply IsS106.alloc | apply IsS106.drewN | apply IsS106.drew | apply IsS106.set_1) | exact HI0.out)); (case side2 => repeat (first | (with_reducible first | exact HB.out | apply below_alloc | apply pw_below_drewN | apply below_drew1 | refine below_set ?_ (IsS106.ge HI0.out)) | exact HB.out)); rintro e w47 ⟨rfl, hi, hb, hk⟩; refine ⟨_, rfl, ?_⟩; have n0_ := Aside0.mk (Kd.R_mono (Kd.R_keep (IsS106.apart (show IsS106 w0 _ g s0_0 t271 from by repeat (first | (with_reducible first | exact HI0.out | apply IsS106.alloc | apply IsS106.drewN | apply IsS106.drew | apply IsS106.set_1) | exact HI0.out)) (by (with_reducible repeat (first | apply Kd.R_alloc | apply Kd.R_drewN | apply Kd.R_drew)); exact HO_5.out) (by decide)) hk (fun _ h => h.2)) (fun _ h => h.1)); have n1_ := Aside0.mk (KeepBut.trans (by repeat (first | (with_reducible first | exact HK.out | apply KeepBut.set_ | apply keep_drewN | apply keep_drew | apply keep_alloc) | exact HK.out)) hk (.inl rfl)); have n2_ := Aside0.mk (hb); have n3_ := Aside0.mk (hi); clear HO_5; clear HK; clear HB; clear HI0; have HO_5 := n0_; have HK := n1_; have HB := n2_; have HI0 := n3_; clear n0_ n1_ n2_ n3_; (try clear hb); (try clear hb2); (try clear hk); (try clear hi)))
                         have n0_ := Aside0.mk (Kd.R_drew HO_5.out)
                         have n1_ := Aside0.mk (IsS106.drew HI0.out)
                         have n2_ := Aside0.mk (keep_drew HK.out)
                         have n3_ := Aside0.mk (below_drew1 HB.out)
                         clear HO_5
                         clear HI0
                         clear HK
                         clear HB
                         have HO_5 := n0_
                         have HI0 := n1_
                         have HK := n2_
                         have HB := n3_
                         clear n0_ n1_ n2_ n3_
                         have q49 : (t270 : Int) ≤ ((x5_1.length : Int) : Int) := of_decide_eq_true (by assumption)
                         obtain ⟨i049, hi049, _, hsz49, _⟩ := info_parts info9
                         have hroom49 : x5_1.length ≤ co45 := (Kd.R_reads' HO_5.out).2.1
                         have hC49 : Kd.C Kd.string _ Ao45 x5_1.length x5_1 := (Kd.R_reads' HO_5.out).2.2
                         have hcut49 := cut_to (P := Try.prog) 30 9 .i64 Try.underlying30 hi049 Ao45 x5_1.length co45 t270 (of_decide_eq_true (by assumption)) q49 hroom49
                         have hr49 := Kd.C_take (m := (t270 : Int).toNat) hC49 (by omega)
                         have hy49 : y299.length = (t270 : Int).toNat := (by rw [Ny299.out, List.length_take]; omega)
                         rw [← Ny299.out] at hr49
                         rw [← hy49] at hcut49
                         have HR302 := Aside0.mk hr49
                         have HC302 := Aside0.mk (show y299.length ≤ co45 from by omega)
                         clear hr49 hC49 hroom49 hi049 hsz49
                         have KY49 := Aside0.mk hy49
                         clear hy49
                         have KL49 := Aside0.mk (show (t270 : Int).toNat ≤ x5_1.length from by omega)
                         replace q49 := eq_true q49
                         have q50 : ((ji41) : Int) ≤ ((x5_1.length : Int) : Int) := of_decide_eq_true (by assumption)
                         obtain ⟨i050, hi050, _, hsz50, _⟩ := info_parts info9
                         have hroom50 : x5_1.length ≤ co45 := (Kd.R_reads' HO_5.out).2.1
                         have hC50 : Kd.C Kd.string _ Ao45 x5_1.length x5_1 := (Kd.R_reads' HO_5.out).2.2
                         have q050 : (0 : Int) ≤ ((ji41) : Int) := of_decide_eq_true (by assumption)
                         have hcut50 := cut_from (P := Try.prog) 30 9 .i64 Try.underlying30 hi050 1 hsz50 Ao45 x5_1.length co45 (ji41) q050 q50
                         have hr50 := Kd.C_drop (m := ((ji41) : Int).toNat) (c := co45) hC50 (by omega) hroom50
                         obtain ⟨A50, hA50⟩ : ∃ A1, A1 = (if co45 = ((ji41) : Int).toNat then Ao45 else (Ao45 : Option Addr).map (·.add (((ji41) : Int).toNat * 1))) := ⟨_, rfl⟩
                         obtain ⟨c50, hc50⟩ : ∃ c1, c1 = co45 - ((ji41) : Int).toNat := ⟨_, rfl⟩
                         have hy50 : y306.length = x5_1.length - ((ji41) : Int).toNat := (by rw [Ny306.out, List.length_drop] <;> omega)
                         rw [show (x5_1).drop ((ji41) : Int).toNat = y306 from Ny306.out.symm] at hr50
                         replace hr50 : Kd.C Kd.string _ A50 y306.length y306 := (by rw [hA50]; exact hr50)
                         rw [← hy50, ← hA50, ← hc50] at hcut50
                         have HR309 := Aside0.mk hr50
                         have HC309 := Aside0.mk (show y306.length ≤ c50 from by rw [hy50, hc50]; exact Nat.sub_le_sub_right hroom50 _)
                         clear hr50 hC50 hroom50 hi050 hsz50 hc50
                         have KY50 := Aside0.mk hy50
                         have KA50 := Aside0.mk hA50
                         clear hy50 hA50
                         have KL50 := Aside0.mk (show ((ji41) : Int).toNat ≤ x5_1.length from by omega)
                         replace q50 := eq_true q50
                         refine start_ (n := 11) (S := fun w' => True) (ds := []) #[f_, f_, f_, f_, f_, f_, f_, f_, f_, f_, f_] (by kernel_rfl) rfl rfl trivial (fun hHeld => ?_); refine with_tabW spec_l30Turn.tab16 spec_l30Turn.bits16 (fun HT_ HW_ => ?_)
                         generalize w47.drew = w48 at HO_5 HI0 HK HB HR302 HR309 hHeld ⊢
                         refine pure_ (i := 1) (N := some 61) (v := ?_) (a' := ?_) #[f_, t_, f_, f_, f_, f_, f_, f_, f_, f_, f_] rfl rfl (any_of HT_.out (by kernel_rfl)) (fun _ _ _ h => h) (Or.inl ⟨by rfl, ?_⟩) ?_ ?_
                         rotate_left
                         · intro w'
                           go_simp
                           with_reducible rfl
                         rotate_left
                         · simp only [Act.put, List.setIfInBounds_toArray, List.set_cons_zero, List.set_cons_succ, i64_w, i32_w]
                           rfl
                         refine pure_ (i := 2) (N := some 62) (v := ?_) (a' := ?_) #[f_, t_, t_, f_, f_, f_, f_, f_, f_, f_, f_] rfl rfl (any_of HT_.out (by kernel_rfl)) (fun _ _ _ h => h) (Or.inl ⟨by rfl, ?_⟩) ?_ ?_
                         rotate_left
                         · intro w'
                           go_simp
                           with_reducible rfl
                         rotate_left
                         · simp only [Act.put, List.setIfInBounds_toArray, List.set_cons_zero, List.set_cons_succ, i64_w, i32_w]
                           rfl
                         refine pure_ (i := 3) (N := some 63) (v := ?_) (a' := ?_) #[f_, t_, t_, t_, f_, f_, f_, f_, f_, f_, f_] rfl rfl (any_of HT_.out (by kernel_rfl)) (fun _ _ _ h => h) (Or.inl ⟨by rfl, ?_⟩) ?_ ?_
                         rotate_left
                         · intro w'
                           go_simp
                           with_reducible rfl
                         rotate_left
                         · simp only [Act.put, List.setIfInBounds_toArray, List.set_cons_zero, List.set_cons_succ, i64_w, i32_w]
                           rfl
                         refine pure_ (i := 5) (N := some 65) (v := ?_) (a' := ?_) #[f_, t_, t_, t_, f_, t_, f_, f_, f_, f_, f_] rfl rfl (any_of HT_.out (by kernel_rfl)) (fun _ _ _ h => h) (Or.inl ⟨by rfl, ?_⟩) ?_ ?_
                         rotate_left
                         · intro w'
                           go_simp
                           with_reducible rfl
                         rotate_left
                         · simp only [Act.put, List.setIfInBounds_toArray, List.set_cons_zero, List.set_cons_succ, i64_w, i32_w]
                           rfl
                         refine pure_ (i := 6) (N := some 66) (v := ?_) (a' := ?_) #[f_, t_, t_, t_, f_, t_, t_, f_, f_, f_, f_] rfl rfl (any_of HT_.out (by kernel_rfl)) (fun _ _ _ h => h) (Or.inl ⟨by rfl, ?_⟩) ?_ ?_
                         rotate_left
                         · intro w'
                           go_simp
                           with_reducible rfl
                         rotate_left
                         · simp only [Act.put, List.setIfInBounds_toArray, List.set_cons_zero, List.set_cons_succ, i64_w, i32_w]
                           rfl
                         refine pure_ (i := 7) (N := some 67) (v := ?_) (a' := ?_) #[f_, t_, t_, t_, f_, t_, t_, t_, f_, f_, f_] rfl rfl (any_of HT_.out (by kernel_rfl)) (fun _ _ _ h => h) (Or.inl ⟨by rfl, ?_⟩) ?_ ?_
                         rotate_left
                         · intro w'
                           go_simp
                           with_reducible rfl
                         rotate_left
                         · simp only [Act.put, List.setIfInBounds_toArray, List.set_cons_zero, List.set_cons_succ, i64_w, i32_w]
                           rfl
                         refine pure_ (i := 8) (N := some 68) (v := ?_) (a' := ?_) #[f_, t_, t_, t_, f_, t_, t_, t_, t_, f_, f_] rfl rfl (any_of HT_.out (by kernel_rfl)) (fun _ _ _ h => h) (Or.inl ⟨by rfl, ?_⟩) ?_ ?_
                         rotate_left
                         · intro w'
                           go_simp
                           with_reducible rfl
                         rotate_left
                         · simp only [Act.put, List.setIfInBounds_toArray, List.set_cons_zero, List.set_cons_succ, i64_w, i32_w]
                           rfl
                         refine one_ (i := 0) (N := some 60) #[t_, t_, t_, t_, f_, t_, t_, t_, t_, f_, f_] rfl rfl (one_of HT_.out (by kernel_rfl)) (by decide) (fun K hK => ?_)
                         refine Kd.R_lit_step Kd.string _ 9 ?hg (N := 60) ?hd (xs := ([] : List ByteArray)) (inner := []) (ok := fun _ => True) (okp := fun _ => True) ?hr ?hp (fun _ hk => hk) trivial (Below.refl _ _) (Nat.le_refl _) (by simp) ?_; (case hd => rfl); (case hg => rfl); (case hr => first | (go_simp; done) | (go_simp; rfl)); (case hp => exact (Reps.none _ _))
                         intro v297 w51 ho52 hb hg_ hnew_
                         clear hg_ hnew_
                         (first | rw [← Ny296.out] at ho52 | (simp only [Int.reduceToNat] at ho52; rw [← Ny296.out] at ho52))
                         have n0_ := Aside0.mk (Kd.R_elder' (by (with_reducible repeat (first | apply Kd.R_alloc | apply Kd.R_drewN | apply Kd.R_drew)); exact HO_5.out) (Kd.R_base ho52) hb)
                         have n1_ := Aside0.mk (Kd.R_lower (Kd.R_new' ho52 (Kd.R_lt (by (with_reducible repeat (first | apply Kd.R_alloc | apply Kd.R_drewN | apply Kd.R_drew)); exact HO_5.out))) (keep_size (w := w) (g := g) (row := none) (by repeat (first | (with_reducible first | exact HK.out | apply KeepBut.set_ | apply keep_drewN | apply keep_drew | apply keep_alloc) | exact HK.out))))
                         have n2_ := Aside0.mk (IsS106.below (by repeat (first | (with_reducible first | exact HI0.out | apply IsS106.alloc | apply IsS106.drewN | apply IsS106.drew | apply IsS106.set_1) | exact HI0.out)) hb)
                         have n3_ := Aside0.mk (Kd.C_below (by repeat (first | (with_reducible exact HR302.out) | (with_reducible refine Kd.C_alloc ?_ _) | (with_reducible refine Kd.C_drewN ?_ _) | (with_reducible refine Kd.C_drew ?_) | exact HR302.out)) hb)
                         have n4_ := Aside0.mk (Kd.C_below (by repeat (first | (with_reducible exact HR309.out) | (with_reducible refine Kd.C_alloc ?_ _) | (with_reducible refine Kd.C_drewN ?_ _) | (with_reducible refine Kd.C_drew ?_) | exact HR309.out)) hb)
                         have n5_ := Aside0.mk (KeepBut.trans (by repeat (first | (with_reducible first | exact HK.out | apply KeepBut.set_ | apply keep_drewN | apply keep_drew | apply keep_alloc) | exact HK.out)) (KeepBut.of_below hb g none) (.inl rfl))
                         have n6_ := Aside0.mk (below_step (by repeat (first | (with_reducible first | exact HB.out | apply below_alloc | apply pw_below_drewN | apply below_drew1 | refine below_set ?_ (IsS106.ge HI0.out)) | exact HB.out)) hb)
                         clear HO_5
                         clear HI0
                         clear HR302
                         clear HR309
                         clear HK
                         clear HB
                         have HO_5 := n0_
                         have HO298 := n1_
                         have HI0 := n2_
                         have HR302 := n3_
                         have HR309 := n4_
                         have HK := n5_
                         have HB := n6_
                         clear n0_ n1_ n2_ n3_ n4_ n5_ n6_
                         clear hb ho52
                         refine hK.out _ _ trivial (fun hHeld => ?_)
                         clear hK K
                         refine norm_ (a' := ?_) ?_ ?_
                         rotate_left
                         · show Act.put _ (some 60) _ = _
                           simp only [Act.put, List.setIfInBounds_toArray, List.set_cons_zero, List.set_cons_succ, i64_w, i32_w]
                           rfl
                         refine one_ (i := 4) (N := some 64) #[t_, t_, t_, t_, t_, t_, t_, t_, t_, f_, f_] rfl rfl (one_of HT_.out (by kernel_rfl)) (by decide) (fun K hK => ?_)
                         refine Kd.R_append_rows_step Kd.string w.heap.size (by rfl) (.tmp 60) (.tmp 63) 30 9 (.string ⟨#[]⟩) 16 rfl Try.underlying30 info9 rfl (by decide) (by omega) v297 y296 y299 _ _ _ (fun k_ => some k_ ≠ (.slice Ao45 x5_1.length co45 : Value).ownBlock) (fun _ => False) rfl rfl ?aO ?aR (fun _ _ h => h) (fun _ h => h.elim) ?aF (Below.refl _ _) ?aS ?aL ?_
                         (case aR => repeat (first | exact (by repeat (first | (with_reducible exact HR302.out) | (with_reducible refine Kd.C_alloc ?_ _) | (with_reducible refine Kd.C_drewN ?_ _) | (with_reducible refine Kd.C_drew ?_) | exact HR302.out)) | (with_reducible refine Kd.C_alloc ?_ _) | (with_reducible refine Kd.C_drewN ?_ _) | (with_reducible refine Kd.C_drew ?_)))
                         (case aF => exact (fun k_ hk => Kd.fresh' (Kd.R_lt (by (with_reducible repeat (first | apply Kd.R_alloc | apply Kd.R_drewN | apply Kd.R_drew)); exact HO_5.out)) k_ hk))
                         (case aO => exact (by (with_reducible repeat (first | apply Kd.R_alloc | apply Kd.R_drewN | apply Kd.R_drew)); exact Kd.R_mono HO298.out (fun _ hk => hk.2)))
                         (case aS => exact (keep_size (w := w) (g := g) (row := none) (by repeat (first | (with_reducible first | exact HK.out | apply KeepBut.set_ | apply keep_drewN | apply keep_drew | apply keep_alloc) | exact HK.out))))
                         (case aL => have := LMc40.out; omega)
                         intro v304 w53 ho hb hg hat
                         rw [← Ny303.out] at ho
                         have n0_ := Aside0.mk (Kd.R_after (ok := (fun _ => True)) (by (with_reducible repeat (first | apply Kd.R_alloc | apply Kd.R_drewN | apply Kd.R_drew)); exact HO_5.out) hg hat)
                         have n1_ := Aside0.mk (IsS106.grown (by repeat (first | (with_reducible first | exact HI0.out | apply IsS106.alloc | apply IsS106.drewN | apply IsS106.drew | apply IsS106.set_1) | exact HI0.out)) hg (IsS106.own_ne HI0.out HO298.out (by decide)))
                         have n2_ := Aside0.mk (below_weaken (by repeat (first | (with_reducible first | exact HB.out | apply below_alloc | apply pw_below_drewN | apply below_drew1 | refine below_set ?_ (IsS106.ge HI0.out)) | exact HB.out)) HL.out hb)
                         have n3_ := Aside0.mk (KeepBut.trans (by repeat (first | (with_reducible first | exact HK.out | apply KeepBut.set_ | apply keep_drewN | apply keep_drew | apply keep_alloc) | exact HK.out)) (KeepBut.of_grown hg g) (Kd.R_base2 HO298.out))
                         have n4_ := Aside0.mk ((show Kd.C Kd.string w53 Ao45 y299.length y299 from by rw [Ny299.out]; exact Kd.C_take (m := (t270 : Int).toNat) ((Kd.R_reads' (Kd.R_after (ok := (fun _ => True)) (by (with_reducible repeat (first | apply Kd.R_alloc | apply Kd.R_drewN | apply Kd.R_drew)); exact HO_5.out) hg hat)).2.2) KL49.out))
                         have n5_ := Aside0.mk ((show Kd.C Kd.string w53 A50 y306.length y306 from by rw [Ny306.out, KA50.out]; exact Kd.C_drop (m := ((ji41) : Int).toNat) (c := co45) ((Kd.R_reads' (Kd.R_after (ok := (fun _ => True)) (by (with_reducible repeat (first | apply Kd.R_alloc | apply Kd.R_drewN | apply Kd.R_drew)); exact HO_5.out) hg hat)).2.2) KL50.out ((Kd.R_reads' (Kd.R_after (ok := (fun _ => True)) (by (with_reducible repeat (first | apply Kd.R_alloc | apply Kd.R_drewN | apply Kd.R_drew)); exact HO_5.out) hg hat)).2.1)))
                         have n6_ := Aside0.mk (ho)
                         clear HO_5
                         clear HI0
                         clear HB
                         clear HK
                         clear HR302
                         clear HR309
                         clear HO298
                         have HO_5 := n0_
                         have HI0 := n1_
                         have HB := n2_
                         have HK := n3_
                         have HR302 := n4_
                         have HR309 := n5_
                         have HO305 := n6_
                         clear n0_ n1_ n2_ n3_ n4_ n5_ n6_
                         clear ho hb hg hat
                         refine hK.out _ _ trivial (fun hHeld => ?_)
                         clear hK K
                         refine norm_ (a' := ?_) ?_ ?_
                         rotate_left
                         · show Act.put _ (some 64) _ = _
                           simp only [Act.put, List.setIfInBounds_toArray, List.set_cons_zero, List.set_cons_succ, i64_w, i32_w]
                           rfl
                         refine one_ (i := 9) (N := some 69) #[t_, t_, t_, t_, t_, t_, t_, t_, t_, t_, f_] rfl rfl (one_of HT_.out (by kernel_rfl)) (by decide) (fun K hK => ?_)
                         refine Kd.R_append_rows_step Kd.string w.heap.size (by rfl) (.tmp 64) (.tmp 68) 30 9 (.string ⟨#[]⟩) 16 rfl Try.underlying30 info9 rfl (by decide) (by omega) v304 y303 y306 _ _ _ (fun k_ => some k_ ≠ (.slice Ao45 x5_1.length co45 : Value).ownBlock) (fun _ => False) rfl rfl ?aO ?aR (fun _ _ h => h) (fun _ h => h.elim) ?aF (Below.refl _ _) ?aS ?aL ?_
                         (case aR => repeat (first | exact (by repeat (first | (with_reducible exact HR309.out) | (with_reducible refine Kd.C_alloc ?_ _) | (with_reducible refine Kd.C_drewN ?_ _) | (with_reducible refine Kd.C_drew ?_) | exact HR309.out)) | (with_reducible refine Kd.C_alloc ?_ _) | (with_reducible refine Kd.C_drewN ?_ _) | (with_reducible refine Kd.C_drew ?_)))
                         (case aF => exact (fun k_ hk => Kd.fresh' (Kd.R_lt (by (with_reducible repeat (first | apply Kd.R_alloc | apply Kd.R_drewN | apply Kd.R_drew)); exact HO_5.out)) k_ hk))
                         (case aO => exact (by (with_reducible repeat (first | apply Kd.R_alloc | apply Kd.R_drewN | apply Kd.R_drew)); exact HO305.out))
                         (case aS => exact (keep_size (w := w) (g := g) (row := none) (by repeat (first | (with_reducible first | exact HK.out | apply KeepBut.set_ | apply keep_drewN | apply keep_drew | apply keep_alloc) | exact HK.out))))
                         (case aL => have := LMc44.out; omega)
                         intro v311 w54 ho hb hg hat
                         rw [← Ny310.out] at ho
                         have n0_ := Aside0.mk (Kd.R_after (ok := (fun _ => True)) (by (with_reducible repeat (first | apply Kd.R_alloc | apply Kd.R_drewN | apply Kd.R_drew)); exact HO_5.out) hg hat)
                         have n1_ := Aside0.mk (IsS106.grown (by repeat (first | (with_reducible first | exact HI0.out | apply IsS106.alloc | apply IsS106.drewN | apply IsS106.drew | apply IsS106.set_1) | exact HI0.out)) hg (IsS106.own_ne HI0.out HO305.out (by decide)))
                         have n2_ := Aside0.mk (below_weaken (by repeat (first | (with_reducible first | exact HB.out | apply below_alloc | apply pw_below_drewN | apply below_drew1 | refine below_set ?_ (IsS106.ge HI0.out)) | exact HB.out)) HL.out hb)
                         have n3_ := Aside0.mk (KeepBut.trans (by repeat (first | (with_reducible first | exact HK.out | apply KeepBut.set_ | apply keep_drewN | apply keep_drew | apply keep_alloc) | exact HK.out)) (KeepBut.of_grown hg g) (Kd.R_base2 HO305.out))
                         have n4_ := Aside0.mk ((show Kd.C Kd.string w54 Ao45 y299.length y299 from by rw [Ny299.out]; exact Kd.C_take (m := (t270 : Int).toNat) ((Kd.R_reads' (Kd.R_after (ok := (fun _ => True)) (by (with_reducible repeat (first | apply Kd.R_alloc | apply Kd.R_drewN | apply Kd.R_drew)); exact HO_5.out) hg hat)).2.2) KL49.out))
                         have n5_ := Aside0.mk ((show Kd.C Kd.string w54 A50 y306.length y306 from by rw [Ny306.out, KA50.out]; exact Kd.C_drop (m := ((ji41) : Int).toNat) (c := co45) ((Kd.R_reads' (Kd.R_after (ok := (fun _ => True)) (by (with_reducible repeat (first | apply Kd.R_alloc | apply Kd.R_drewN | apply Kd.R_drew)); exact HO_5.out) hg hat)).2.2) KL50.out ((Kd.R_reads' (Kd.R_after (ok := (fun _ => True)) (by (with_reducible repeat (first | apply Kd.R_alloc | apply Kd.R_drewN | apply Kd.R_drew)); exact HO_5.out) hg hat)).2.1)))
                         have n6_ := Aside0.mk (ho)
                         clear HO_5
                         clear HI0
                         clear HB
                         clear HK
                         clear HR302
                         clear HR309
                         clear HO305
                         have HO_5 := n0_
                         have HI0 := n1_
                         have HB := n2_
                         have HK := n3_
                         have HR302 := n4_
                         have HR309 := n5_
                         have HO312 := n6_
                         clear n0_ n1_ n2_ n3_ n4_ n5_ n6_
                         clear ho hb hg hat
                         refine hK.out _ _ trivial (fun hHeld => ?_)
                         clear hK K
                         refine norm_ (a' := ?_) ?_ ?_
                         rotate_left
                         · show Act.put _ (some 69) _ = _
                           simp only [Act.put, List.setIfInBounds_toArray, List.set_cons_zero, List.set_cons_succ, i64_w, i32_w]
                           rfl
                         refine pure_ (i := 10) (N := some 5) (v := ?_) (a' := ?_) #[t_, t_, t_, t_, t_, t_, t_, t_, t_, t_, t_] rfl rfl (any_of HT_.out (by kernel_rfl)) (fun _ _ _ h => h) (Or.inl ⟨by rfl, ?_⟩) ?_ ?_
                         rotate_left
                         · intro w'
                           go_simp
                           with_reducible rfl
                         rotate_left
                         · simp only [Act.put, List.setIfInBounds_toArray, List.set_cons_zero, List.set_cons_succ, i64_w, i32_w]
                           rfl
                         refine done_ (done_of HT_.out (by kernel_rfl)) ?_
                         try go_wp2
                         go_roundg k1
                         case measure => have := HK1.out; omega
                         case rel => exact ⟨(y310), (wrap64 (x6_1 - 1)), (t273), (by first | rfl | (simp; done) | (simp [*]; done)), H', ⟨by have := HK1.out; omega⟩, ⟨by (with_reducible repeat (first | apply Kd.R_alloc | apply Kd.R_drewN | apply Kd.R_drew)); exact Kd.R_mono HO312.out (fun _ hk => trivial)⟩, ⟨by repeat (first | (with_reducible first | exact HI0.out | apply IsS106.alloc | apply IsS106.drewN | apply IsS106.drew | apply IsS106.set_1) | exact HI0.out)⟩, ⟨by repeat (first | (with_reducible first | exact HK.out | apply KeepBut.set_ | apply keep_drewN | apply keep_drew | apply keep_alloc) | exact HK.out)⟩, ⟨by repeat (first | (with_reducible first | exact HB.out | apply below_alloc | apply pw_below_drewN | apply below_drew1 | refine below_set ?_ (IsS106.ge HI0.out)) | exact HB.out)⟩⟩
                       · rw [if_neg c44] at H
                         exact absurd H (by simp)
                     · rw [if_neg c43] at H
                       exact absurd H (by simp)
                   · rw [if_neg c42] at H
                     exact absurd H (by simp)
                 · rw [if_neg c40] at H
                   exact absurd H (by simp)
               · rw [if_neg c39] at H
                 exact absurd H (by simp)
             · rw [if_neg c38] at H
               exact absurd H (by simp)
           · rw [if_neg c37] at H
             have c37b0 : decide (t270 < (x5_1.length : Int)) = false := decide_eq_false c37
             clear c37
             have H' := Aside0.mk H
             clear H
             obtain ⟨Ao55, co55, eo55⟩ := Kd.R_slice HO_5.out
             subst eo55
             go_wp2_with (first | ((with_reducible refine gate_callee (f := 81) rfl ?_); refine goesL_ (some 22) rfl rfl Try.func81 (by kernel_rfl) rfl #[.pointer (some ⟨g, 0, none⟩), .int .i64 (wrap64 ((x5_1.length : Int) + 1))] rfl (by (try simp only [List.map_toArray, List.map_cons, List.map_nil]); first | done | rfl | (simp only [List.length_drop, List.length_take]; rfl)) ?_; (with_reducible refine (spec_l30Rd_pick.calls k1 g s0_0 x1001_1 (wrap64 ((x5_1.length : Int) + 1)) t270 t271 w0 _ ?side1 ?side2 A10.out).mono ?_); (case side1 => repeat (first | (with_reducible first | exact HI0.out | apply IsS106.alloc | apply IsS106.drewN | apply IsS106.drew | apply IsS106.set_1) | exact HI0.out)); (case side2 => repeat (first | (with_reducible first | exact HB.out | apply below_alloc | apply pw_below_drewN | apply below_drew1 | refine below_set ?_ (IsS106.ge HI0.out)) | exact HB.out)); rintro e w56 ⟨rfl, hi, hb, hk⟩; refine ⟨_, rfl, ?_⟩; have n0_ := Aside0.mk (Kd.R_mono (Kd.R_keep (IsS106.apart (show IsS106 w0 _ g s0_0 x1001_1 from by repeat (first | (with_reducible first | exact HI0.out | apply IsS106.alloc | apply IsS106.drewN | apply IsS106.drew | apply IsS106.set_1) | exact HI0.out)) (by (with_reducible repeat (first | apply Kd.R_alloc | apply Kd.R_drewN | apply Kd.R_drew)); exact HO_5.out) (by decide)) hk (fun _ h => h.2)) (fun _ h => h.1)); have n1_ := Aside0.mk (KeepBut.trans (by repeat (first | (with_reducible first | exact HK.out | apply KeepBut.set_ | apply keep_drewN | apply keep_drew | apply keep_alloc) | exact HK.out)) hk (.inl rfl)); have n2_ := Aside0.mk (hb); have n3_ := Aside0.mk (hi); clear HO_5; clear HK; clear HB; clear HI0; have HO_5 := n0_; have HK := n1_; have HB := n2_; have HI0 := n3_; clear n0_ n1_ n2_ n3_; (try clear hb); (try clear hb2); (try clear hk); (try clear hi)) | ((with_reducible refine gate_callee (f := 81) rfl ?_); refine goesL_ (some 24) rfl rfl Try.func81 (by kernel_rfl) rfl #[.pointer (some ⟨g, 0, none⟩), .int .i64 3] rfl (by (try simp only [List.map_toArray, List.map_cons, List.map_nil]); first | done | rfl | (simp only [List.length_drop, List.length_take]; rfl)) ?_; (with_reducible refine (spec_l30Rd_pick.calls k1 g s0_0 t271 3 t272 t273 w0 _ ?side1 ?side2 A11.out).mono ?_); (case side1 => repeat (first | (with_reducible first | exact HI0.out | apply IsS106.alloc | apply IsS106.drewN | apply IsS106.drew | apply IsS106.set_1) | exact HI0.out)); (case side2 => repeat (first | (with_reducible first | exact HB.out | apply below_alloc | apply pw_below_drewN | apply below_drew1 | refine below_set ?_ (IsS106.ge HI0.out)) | exact HB.out)); rintro e w57 ⟨rfl, hi, hb, hk⟩; refine ⟨_, rfl, ?_⟩; have n0_ := Aside0.mk (Kd.R_mono (Kd.R_keep (IsS106.apart (show IsS106 w0 _ g s0_0 t271 from by repeat (first | (with_reducible first | exact HI0.out | apply IsS106.alloc | apply IsS106.drewN | apply IsS106.drew | apply IsS106.set_1) | exact HI0.out)) (by (with_reducible repeat (first | apply Kd.R_alloc | apply Kd.R_drewN | apply Kd.R_drew)); exact HO_5.out) (by decide)) hk (fun _ h => h.2)) (fun _ h => h.1)); have n1_ := Aside0.mk (KeepBut.trans (by repeat (first | (with_reducible first | exact HK.out | apply KeepBut.set_ | apply keep_drewN | apply keep_drew | apply keep_alloc) | exact HK.out)) hk (.inl rfl)); have n2_ := Aside0.mk (hb); have n3_ := Aside0.mk (hi); clear HO_5; clear HK; clear HB; clear HI0; have HO_5 := n0_; have HK := n1_; have HB := n2_; have HI0 := n3_; clear n0_ n1_ n2_ n3_; (try clear hb); (try clear hb2); (try clear hk); (try clear hi)))
             go_roundg k1
             case measure => have := HK1.out; omega
             case rel => exact ⟨(x5_1), (wrap64 (x6_1 - 1)), (t273), (by first | rfl | (simp; done) | (simp [*]; done)), H', ⟨by have := HK1.out; omega⟩, ⟨by (with_reducible repeat (first | apply Kd.R_alloc | apply Kd.R_drewN | apply Kd.R_drew)); exact HO_5.out⟩, ⟨by repeat (first | (with_reducible first | exact HI0.out | apply IsS106.alloc | apply IsS106.drewN | apply IsS106.drew | apply IsS106.set_1) | exact HI0.out)⟩, ⟨by repeat (first | (with_reducible first | exact HK.out | apply KeepBut.set_ | apply keep_drewN | apply keep_drew | apply keep_alloc) | exact HK.out)⟩, ⟨by repeat (first | (with_reducible first | exact HB.out | apply below_alloc | apply pw_below_drewN | apply below_drew1 | refine below_set ?_ (IsS106.ge HI0.out)) | exact HB.out)⟩⟩
         · rw [if_neg c36] at H
           have c36b0 : (t272 == 1) = false := beq_eq_false_iff_ne.mpr c36
           have c36b1 : (t272 != 1) = true := bne_iff_ne.mpr c36
           by_cases c58 : t270 < (x5_1.length : Int)
           · rw [if_pos c58] at H
             have c58b0 : decide (t270 < (x5_1.length : Int)) = true := decide_eq_true c58
             clear c58
             replace H := Option.bind_eq_some_iff.mp H
             obtain ⟨⟨t313, t314⟩, A590, H⟩ := H
             replace H : (if 0 ≤ t270 then (spec_l30Turn.l0 k1 (x5_1.set (t270 : Int).toNat t313) (wrap64 (x6_1 - 1)) s0_0 t314) else (none)) = some (r1, r2) := H
             have A59 := Aside0.mk A590
             clear A590
             by_cases c60 : 0 ≤ t270
             · rw [if_pos c60] at H
               have c60b0 : decide (0 ≤ t270) = true := decide_eq_true c60
               clear c60
               obtain ⟨y315, hy315⟩ : ∃ y_ : List ByteArray, y_ = (x5_1.set (t270 : Int).toNat t313) := ⟨_, rfl⟩
               replace H : (spec_l30Turn.l0 k1 y315 (wrap64 (x6_1 - 1)) s0_0 t314) = some (r1, r2) := by first | (rw [hy315]; with_reducible exact H) | (have H2_ := (Option.bind_some _ _).symm.trans H; rw [hy315]; with_reducible exact H2_) | (have H2_ := (Option.bind_some _ _).symm.trans H; with_reducible exact H2_) | with_reducible exact H | (rw [hy315]; exact H) | exact H
               have Ny315 := Aside0.mk hy315
               clear hy315
               have H' := Aside0.mk H
               clear H
               obtain ⟨Ao62, co62, eo62⟩ := Kd.R_slice HO_5.out
               subst eo62
               go_wp2_with (first | ((with_reducible refine gate_callee (f := 81) rfl ?_); refine goesL_ (some 22) rfl rfl Try.func81 (by kernel_rfl) rfl #[.pointer (some ⟨g, 0, none⟩), .int .i64 (wrap64 ((x5_1.length : Int) + 1))] rfl (by (try simp only [List.map_toArray, List.map_cons, List.map_nil]); first | done | rfl | (simp only [List.length_drop, List.length_take]; rfl)) ?_; (with_reducible refine (spec_l30Rd_pick.calls k1 g s0_0 x1001_1 (wrap64 ((x5_1.length : Int) + 1)) t270 t271 w0 _ ?side1 ?side2 A10.out).mono ?_); (case side1 => repeat (first | (with_reducible first | exact HI0.out | apply IsS106.alloc | apply IsS106.drewN | apply IsS106.drew | apply IsS106.set_1) | exact HI0.out)); (case side2 => repeat (first | (with_reducible first | exact HB.out | apply below_alloc | apply pw_below_drewN | apply below_drew1 | refine below_set ?_ (IsS106.ge HI0.out)) | exact HB.out)); rintro e w63 ⟨rfl, hi, hb, hk⟩; refine ⟨_, rfl, ?_⟩; have n0_ := Aside0.mk (Kd.R_mono (Kd.R_keep (IsS106.apart (show IsS106 w0 _ g s0_0 x1001_1 from by repeat (first | (with_reducible first | exact HI0.out | apply IsS106.alloc | apply IsS106.drewN | apply IsS106.drew | apply IsS106.set_1) | exact HI0.out)) (by (with_reducible repeat (first | apply Kd.R_alloc | apply Kd.R_drewN | apply Kd.R_drew)); exact HO_5.out) (by decide)) hk (fun _ h => h.2)) (fun _ h => h.1)); have n1_ := Aside0.mk (KeepBut.trans (by repeat (first | (with_reducible first | exact HK.out | apply KeepBut.set_ | apply keep_drewN | apply keep_drew | apply keep_alloc) | exact HK.out)) hk (.inl rfl)); have n2_ := Aside0.mk (hb); have n3_ := Aside0.mk (hi); clear HO_5; clear HK; clear HB; clear HI0; have HO_5 := n0_; have HK := n1_; have HB := n2_; have HI0 := n3_; clear n0_ n1_ n2_ n3_; (try clear hb); (try clear hb2); (try clear hk); (try clear hi)) | ((with_reducible refine gate_callee (f := 81) rfl ?_); refine goesL_ (some 24) rfl rfl Try.func81 (by kernel_rfl) rfl #[.pointer (some ⟨g, 0, none⟩), .int .i64 3] rfl (by (try simp only [List.map_toArray, List.map_cons, List.map_nil]); first | done | rfl | (simp only [List.length_drop, List.length_take]; rfl)) ?_; (with_reducible refine (spec_l30Rd_pick.calls k1 g s0_0 t271 3 t272 t273 w0 _ ?side1 ?side2 A11.out).mono ?_); (case side1 => repeat (first | (with_reducible first | exact HI0.out | apply IsS106.alloc | apply IsS106.drewN | apply IsS106.drew | apply IsS106.set_1) | exact HI0.out)); (case side2 => repeat (first | (with_reducible first | exact HB.out | apply below_alloc | apply pw_below_drewN | apply below_drew1 | refine below_set ?_ (IsS106.ge HI0.out)) | exact HB.out)); rintro e w64 ⟨rfl, hi, hb, hk⟩; refine ⟨_, rfl, ?_⟩; have n0_ := Aside0.mk (Kd.R_mono (Kd.R_keep (IsS106.apart (show IsS106 w0 _ g s0_0 t271 from by repeat (first | (with_reducible first | exact HI0.out | apply IsS106.alloc | apply IsS106.drewN | apply IsS106.drew | apply IsS106.set_1) | exact HI0.out)) (by (with_reducible repeat (first | apply Kd.R_alloc | apply Kd.R_drewN | apply Kd.R_drew)); exact HO_5.out) (by decide)) hk (fun _ h => h.2)) (fun _ h => h.1)); have n1_ := Aside0.mk (KeepBut.trans (by repeat (first | (with_reducible first | exact HK.out | apply KeepBut.set_ | apply keep_drewN | apply keep_drew | apply keep_alloc) | exact HK.out)) hk (.inl rfl)); have n2_ := Aside0.mk (hb); have n3_ := Aside0.mk (hi); clear HO_5; clear HK; clear HB; clear HI0; have HO_5 := n0_; have HK := n1_; have HB := n2_; have HI0 := n3_; clear n0_ n1_ n2_ n3_; (try clear hb); (try clear hb2); (try clear hk); (try clear hi)) | ((with_reducible refine gate_callee (f := 109) rfl ?_); refine goesL_ (some 32) rfl rfl Try.func109 (by kernel_rfl) rfl #[.pointer (some ⟨g, 0, none⟩)] rfl (by (try simp only [List.map_toArray, List.map_cons, List.map_nil]); first | done | rfl | (simp only [List.length_drop, List.length_take]; rfl)) ?_; (with_reducible refine (spec_l30Line.calls k1 g s0_0 t273 t313 t314 w0 _ ?side1 ?side2 A59.out).mono ?_); (case side1 => repeat (first | (with_reducible first | exact HI0.out | apply IsS106.alloc | apply IsS106.drewN | apply IsS106.drew | apply IsS106.set_1) | exact HI0.out)); (case side2 => repeat (first | (with_reducible first | exact HB.out | apply below_alloc | apply pw_below_drewN | apply below_drew1 | refine below_set ?_ (IsS106.ge HI0.out)) | exact HB.out)); rintro e w65 ⟨rfl, hi, hb, hk⟩; refine ⟨_, rfl, ?_⟩; have n0_ := Aside0.mk (Kd.R_mono (Kd.R_keep (IsS106.apart (show IsS106 w0 _ g s0_0 t273 from by repeat (first | (with_reducible first | exact HI0.out | apply IsS106.alloc | apply IsS106.drewN | apply IsS106.drew | apply IsS106.set_1) | exact HI0.out)) (by (with_reducible repeat (first | apply Kd.R_alloc | apply Kd.R_drewN | apply Kd.R_drew)); exact HO_5.out) (by decide)) hk (fun _ h => h.2)) (fun _ h => h.1)); have n1_ := Aside0.mk (KeepBut.trans (by repeat (first | (with_reducible first | exact HK.out | apply KeepBut.set_ | apply keep_drewN | apply keep_drew | apply keep_alloc) | exact HK.out)) hk (.inl rfl)); have n2_ := Aside0.mk (hb); have n3_ := Aside0.mk (hi); clear HO_5; clear HK; clear HB; clear HI0; have HO_5 := n0_; have HK := n1_; have HB := n2_; have HI0 := n3_; clear n0_ n1_ n2_ n3_; (try clear hb); (try clear hb2); (try clear hk); (try clear hi); have p61 : 0 ≤ (t270 : Int) := of_decide_eq_true (by assumption); have q61 : (t270 : Int) < ((x5_1.length : Int) : Int) := of_decide_eq_true (by assumption); obtain ⟨go61, co61, eo61, gb61, gl61, cl61, HG61⟩ := Kd.R_form HO_5.out (by omega); (first | cases eo61 | (injection eo61 with ea_ en_ ec_; (first | subst ea_ | (injection ea_ with ea_; subst ea_)); subst ec_; clear en_)); have GB61 := Aside0.mk gb61; have GG61 := Aside0.mk HG61; clear gb61 gl61 HG61; obtain ⟨hx61_0, hf61_0⟩ := Kd.R_celln (⟨#[]⟩ : ByteArray) HO_5.out (t270 : Int) p61 q61; replace p61 := eq_true p61; replace q61 := eq_true q61; obtain ⟨hy66_, hz66_⟩ := Kd.R_celln (⟨#[]⟩ : ByteArray) HO_5.out (t270 : Int) (of_decide_eq_true (by assumption)) (of_decide_eq_true (by assumption)); have HP66 := Kd.R_putg HO_5.out (t270 : Int) t313) | ((with_reducible refine gate_store (t := 9) (p := 33) rfl ?_); refine store_event (t := 9) (p := 33) (v := ?vo_w67) (w1 := (w65.setCell ⟨go61, (t270 : Int).toNat, none⟩ (.string t313))) ?hg ?ho ?hn ?hr ?_; (case ho => rfl); (case hg => rfl); (case hn => rfl); (case hr => first | (go_simp; done) | (go_simp; rfl)); intro w67 hw; have hg : w65.grownBy w67 (some go61) := (by rw [hw]; exact HP66.2); have hp_ : Kd.R Kd.string 9 w67 w.heap.size (fun _ => True) (.slice (some ⟨go61, 0, none⟩) x5_1.length co62) y315 := (by rw [hw, Ny315.out]; exact HP66.1); clear HP66; have n0_ := Aside0.mk (hp_); have n1_ := Aside0.mk (IsS106.grown (by repeat (first | (with_reducible first | exact HI0.out | apply IsS106.alloc | apply IsS106.drewN | apply IsS106.drew | apply IsS106.set_1) | exact HI0.out)) hg (IsS106.own_ne HI0.out HO_5.out (by decide))); have n2_ := Aside0.mk ((by rw [hw]; exact below_set (HB.out) (Nat.le_trans HL.out GB61.out) : Below w0.heap.size w0 w67)); have n3_ := Aside0.mk (KeepBut.trans (by repeat (first | (with_reducible first | exact HK.out | apply KeepBut.set_ | apply keep_drewN | apply keep_drew | apply keep_alloc) | exact HK.out)) (KeepBut.of_grown hg g) (Kd.R_base2 HO_5.out)); clear HO_5; clear HI0; clear HB; clear HK; have HO_5 := n0_; have HI0 := n1_; have HB := n2_; have HK := n3_; clear n0_ n1_ n2_ n3_; clear hg hw hp_))
               go_roundg k1
               case measure => have := HK1.out; omega
               case rel => exact ⟨(y315), (wrap64 (x6_1 - 1)), (t314), (by first | rfl | (simp; done) | (simp [*]; done)), H', ⟨by have := HK1.out; omega⟩, ⟨by (with_reducible repeat (first | apply Kd.R_alloc | apply Kd.R_drewN | apply Kd.R_drew)); exact HO_5.out⟩, ⟨by repeat (first | (with_reducible first | exact HI0.out | apply IsS106.alloc | apply IsS106.drewN | apply IsS106.drew | apply IsS106.set_1) | exact HI0.out)⟩, ⟨by repeat (first | (with_reducible first | exact HK.out | apply KeepBut.set_ | apply keep_drewN | apply keep_drew | apply keep_alloc) | exact HK.out)⟩, ⟨by repeat (first | (with_reducible first | exact HB.out | apply below_alloc | apply pw_below_drewN | apply below_drew1 | refine below_set ?_ (IsS106.ge HI0.out)) | exact HB.out)⟩⟩
             · rw [if_neg c60] at H
               exact absurd H (by simp)
           · rw [if_neg c58] at H
             have c58b0 : decide (t270 < (x5_1.length : Int)) = false := decide_eq_false c58
             clear c58
             have H' := Aside0.mk H
             clear H
             obtain ⟨Ao68, co68, eo68⟩ := Kd.R_slice HO_5.out
             subst eo68
             go_wp2_with (first | ((with_reducible refine gate_callee (f := 81) rfl ?_); refine goesL_ (some 22) rfl rfl Try.func81 (by kernel_rfl) rfl #[.pointer (some ⟨g, 0, none⟩), .int .i64 (wrap64 ((x5_1.length : Int) + 1))] rfl (by (try simp only [List.map_toArray, List.map_cons, List.map_nil]); first | done | rfl | (simp only [List.length_drop, List.length_take]; rfl)) ?_; (with_reducible refine (spec_l30Rd_pick.calls k1 g s0_0 x1001_1 (wrap64 ((x5_1.length : Int) + 1)) t270 t271 w0 _ ?side1 ?side2 A10.out).mono ?_); (case side1 => repeat (first | (with_reducible first | exact HI0.out | apply IsS106.alloc | apply IsS106.drewN | apply IsS106.drew | apply IsS106.set_1) | exact HI0.out)); (case side2 => repeat (first | (with_reducible first | exact HB.out | apply below_alloc | apply pw_below_drewN | apply below_drew1 | refine below_set ?_ (IsS106.ge HI0.out)) | exact HB.out)); rintro e w69 ⟨rfl, hi, hb, hk⟩; refine ⟨_, rfl, ?_⟩; have n0_ := Aside0.mk (Kd.R_mono (Kd.R_keep (IsS106.apart (show IsS106 w0 _ g s0_0 x1001_1 from by repeat (first | (with_reducible first | exact HI0.out | apply IsS106.alloc | apply IsS106.drewN | apply IsS106.drew | apply IsS106.set_1) | exact HI0.out)) (by (with_reducible repeat (first | apply Kd.R_alloc | apply Kd.R_drewN | apply Kd.R_drew)); exact HO_5.out) (by decide)) hk (fun _ h => h.2)) (fun _ h => h.1)); have n1_ := Aside0.mk (KeepBut.trans (by repeat (first | (with_reducible first | exact HK.out | apply KeepBut.set_ | apply keep_drewN | apply keep_drew | apply keep_alloc) | exact HK.out)) hk (.inl rfl)); have n2_ := Aside0.mk (hb); have n3_ := Aside0.mk (hi); clear HO_5; clear HK; clear HB; clear HI0; have HO_5 := n0_; have HK := n1_; have HB := n2_; have HI0 := n3_; clear n0_ n1_ n2_ n3_; (try clear hb); (try clear hb2); (try clear hk); (try clear hi)) | ((with_reducible refine gate_callee (f := 81) rfl ?_); refine goesL_ (some 24) rfl rfl Try.func81 (by kernel_rfl) rfl #[.pointer (some ⟨g, 0, none⟩), .int .i64 3] rfl (by (try simp only [List.map_toArray, List.map_cons, List.map_nil]); first | done | rfl | (simp only [List.length_drop, List.length_take]; rfl)) ?_; (with_reducible refine (spec_l30Rd_pick.calls k1 g s0_0 t271 3 t272 t273 w0 _ ?side1 ?side2 A11.out).mono ?_); (case side1 => repeat (first | (with_reducible first | exact HI0.out | apply IsS106.alloc | apply IsS106.drewN | apply IsS106.drew | apply IsS106.set_1) | exact HI0.out)); (case side2 => repeat (first | (with_reducible first | exact HB.out | apply below_alloc | apply pw_below_drewN | apply below_drew1 | refine below_set ?_ (IsS106.ge HI0.out)) | exact HB.out)); rintro e w70 ⟨rfl, hi, hb, hk⟩; refine ⟨_, rfl, ?_⟩; have n0_ := Aside0.mk (Kd.R_mono (Kd.R_keep (IsS106.apart (show IsS106 w0 _ g s0_0 t271 from by repeat (first | (with_reducible first | exact HI0.out | apply IsS106.alloc | apply IsS106.drewN | apply IsS106.drew | apply IsS106.set_1) | exact HI0.out)) (by (with_reducible repeat (first | apply Kd.R_alloc | apply Kd.R_drewN | apply Kd.R_drew)); exact HO_5.out) (by decide)) hk (fun _ h => h.2)) (fun _ h => h.1)); have n1_ := Aside0.mk (KeepBut.trans (by repeat (first | (with_reducible first | exact HK.out | apply KeepBut.set_ | apply keep_drewN | apply keep_drew | apply keep_alloc) | exact HK.out)) hk (.inl rfl)); have n2_ := Aside0.mk (hb); have n3_ := Aside0.mk (hi); clear HO_5; clear HK; clear HB; clear HI0; have HO_5 := n0_; have HK := n1_; have HB := n2_; have HI0 := n3_; clear n0_ n1_ n2_ n3_; (try clear hb); (try clear hb2); (try clear hk); (try clear hi)))
             go_roundg k1
             case measure => have := HK1.out; omega
             case rel => exact ⟨(x5_1), (wrap64 (x6_1 - 1)), (t273), (by first | rfl | (simp; done) | (simp [*]; done)), H', ⟨by have := HK1.out; omega⟩, ⟨by (with_reducible repeat (first | apply Kd.R_alloc | apply Kd.R_drewN | apply Kd.R_drew)); exact HO_5.out⟩, ⟨by repeat (first | (with_reducible first | exact HI0.out | apply IsS106.alloc | apply IsS106.drewN | apply IsS106.drew | apply IsS106.set_1) | exact HI0.out)⟩, ⟨by repeat (first | (with_reducible first | exact HK.out | apply KeepBut.set_ | apply keep_drewN | apply keep_drew | apply keep_alloc) | exact HK.out)⟩, ⟨by repeat (first | (with_reducible first | exact HB.out | apply below_alloc | apply pw_below_drewN | apply below_drew1 | refine below_set ?_ (IsS106.ge HI0.out)) | exact HB.out)⟩⟩
     · rw [if_neg c9] at H
       have c9b0 : decide (0 < x6_1) = false := decide_eq_false c9
       clear c9
       simp only [Option.some.injEq, Prod.mk.injEq] at H
       obtain ⟨rfl, rfl⟩ := H
       go_wp2
       go_ret
       exact ⟨_, by first | rfl | (simp [errW_none, errW_some] <;> rfl) | (simp [*, errW_none, errW_some] <;> rfl), by (with_reducible repeat (first | apply Kd.R_alloc | apply Kd.R_drewN | apply Kd.R_drew)); exact HO_5.out, by repeat (first | (with_reducible first | exact HI0.out | apply IsS106.alloc | apply IsS106.drewN | apply IsS106.drew | apply IsS106.set_1) | exact HI0.out), by repeat (first | (with_reducible first | exact HB.out | apply below_alloc | apply pw_below_drewN | apply below_drew1 | refine below_set ?_ (IsS106.ge HI0.out)) | exact HB.out), by repeat (first | (with_reducible first | exact HK.out | apply KeepBut.set_ | apply keep_drewN | apply keep_drew | apply keep_alloc) | exact HK.out)⟩
 · rw [if_neg c3] at H
   exact absurd H (by simp)
end Go.Proofs.Ytfnhjaiioojbkaa.Q
end
section
namespace Go.Proofs.Ytfnhjaiioojbkaa.Q
open Go.RowKit Go.Proofs.YtfnhjaiioojbkaaW.PrintWords Go.Proofs.YtfnhjaiioojbkaaW.PrintLast Go.Proofs.YtfnhjaiioojbkaaW.PrintMore
attribute [local go_sem] max2_int min2_int max_two min_two max_three min_three max_four min_four   -- for this text's walks alone
set_option linter.unusedVariables false
set_option linter.unusedSimpArgs false
def spec_l30Two.f (k : Nat) (l0 : List Int) : Option (List ByteArray × List ByteArray) := (spec_l30Open.f l0).bind fun bt316 => ((spec_l30AnyText.f k bt316.1 bt316.2).bind fun bt319 => ((spec_l30Rd_pick.f k bt316.1 bt319.2 4).bind fun bt323 => (if bt323.1 = 0 then ((spec_l30AnyText.f k bt316.1 bt323.2).bind fun bt325 => (some (bt319.1, bt325.1))) else ((spec_l30Turn.f k bt316.1 bt323.2 bt319.1).bind fun bt329 => (some (bt319.1, bt329.1))))))
theorem spec_l30Two.mono : ∀ a0 k, LeO (spec_l30Two.f k a0) (spec_l30Two.f (k + 1) a0) := by
 intro a0 k
 unfold spec_l30Two.f
 repeat' first
  | (with_reducible exact spec_l30AnyText.mono _ _ _)
  | (with_reducible exact spec_l30Rd_pick.mono _ _ _ _)
  | (with_reducible exact spec_l30Turn.mono _ _ _ _)
  | (with_reducible exact LeO.refl _)
  | (with_reducible exact LeO.none _)
  | (with_reducible refine LeO.ite ?_ ?_)
  | (with_reducible refine LeO.bind ?_ (fun _ => ?_))
  | exact spec_l30AnyText.mono _ _ _
  | exact spec_l30Rd_pick.mono _ _ _ _
  | exact spec_l30Turn.mono _ _ _ _
  | exact LeO.none _
  | refine LeO.ite ?_ ?_
  | refine LeO.bind ?_ (fun _ => ?_)
set_option maxHeartbeats 8000000 in
set_option maxRecDepth 100000 in
theorem spec_l30Two.calls (k : Nat) (A0 : Option Addr) (c0 : Nat) (l0 : List Int) (r1 : List ByteArray) (r2 : List ByteArray) (w : World) (hr0 : Kd.C (Kd.int .u8) w A0 l0.length l0) (hc0 : l0.length ≤ c0) (h : spec_l30Two.f k l0 = some (r1, r2)) :
 Calls Try.prog 69 #[.slice A0 l0.length c0] w fun e w' => ∃ v0_ v1_ : Value, e = .returned (.tuple #[v0_, v1_]) ∧ Kd.R Kd.string 9 w' w.heap.size (fun k_ => some k_ ≠ (v1_ : Value).ownBlock) v0_ r1 ∧ Kd.R Kd.string 9 w' w.heap.size (fun k_ => some k_ ≠ (v0_ : Value).ownBlock) v1_ r2 ∧ Below w.heap.size w w' := by
 have HR0 := Aside0.mk hr0
 have HC0 := Aside0.mk hc0
 clear hr0 hc0
 have HB := Aside0.mk (Below.refl w.heap.size w)
 have H : ((spec_l30Open.f l0).bind fun bt316 => ((spec_l30AnyText.f k bt316.1 bt316.2).bind fun bt319 => ((spec_l30Rd_pick.f k bt316.1 bt319.2 4).bind fun bt323 => (if bt323.1 = 0 then ((spec_l30AnyText.f k bt316.1 bt323.2).bind fun bt325 => (some (bt319.1, bt325.1))) else ((spec_l30Turn.f k bt316.1 bt323.2 bt319.1).bind fun bt329 => (some (bt319.1, bt329.1))))))) = some (r1, r2) := h
 clear h
 replace H := Option.bind_eq_some_iff.mp H
 obtain ⟨⟨t316, t317⟩, A20, H⟩ := H
 replace H : ((spec_l30AnyText.f k t316 t317).bind fun bt319 => ((spec_l30Rd_pick.f k t316 bt319.2 4).bind fun bt323 => (if bt323.1 = 0 then ((spec_l30AnyText.f k t316 bt323.2).bind fun bt325 => (some (bt319.1, bt325.1))) else ((spec_l30Turn.f k t316 bt323.2 bt319.1).bind fun bt329 => (some (bt319.1, bt329.1)))))) = some (r1, r2) := H
 have A2 := Aside0.mk A20
 clear A20
 replace H := Option.bind_eq_some_iff.mp H
 obtain ⟨⟨t319, t322⟩, A30, H⟩ := H
 replace H : ((spec_l30Rd_pick.f k t316 t322 4).bind fun bt323 => (if bt323.1 = 0 then ((spec_l30AnyText.f k t316 bt323.2).bind fun bt325 => (some (t319, bt325.1))) else ((spec_l30Turn.f k t316 bt323.2 t319).bind fun bt329 => (some (t319, bt329.1))))) = some (r1, r2) := H
 have A3 := Aside0.mk A30
 clear A30
 replace H := Option.bind_eq_some_iff.mp H
 obtain ⟨⟨t323, t324⟩, A40, H⟩ := H
 replace H : (if t323 = 0 then ((spec_l30AnyText.f k t316 t324).bind fun bt325 => (some (t319, bt325.1))) else ((spec_l30Turn.f k t316 t324 t319).bind fun bt329 => (some (t319, bt329.1)))) = some (r1, r2) := H
 have A4 := Aside0.mk A40
 clear A40
 by_cases c5 : t323 = 0
 · rw [if_pos c5] at H
   have c5b0 : (t323 == 0) = true := beq_iff_eq.mpr c5
   have c5b1 : (t323 != 0) = false := bne_eq_false_iff_eq.mpr c5
   clear c5
   replace H := Option.bind_eq_some_iff.mp H
   obtain ⟨⟨t325, t328⟩, A60, H⟩ := H
   replace H : (some (t319, t325)) = some (r1, r2) := H
   have A6 := Aside0.mk A60
   clear A60
   simp only [Option.some.injEq, Prod.mk.injEq] at H
   obtain ⟨rfl, rfl⟩ := H
   go_enter Try.func69, Try.ntmps69
   go_wp2_with (first | ((with_reducible refine gate_callee (f := 78) rfl ?_); refine goesL_ (some 7) rfl rfl Try.func78 (by kernel_rfl) rfl #[.slice A0 l0.length c0] rfl (by (try simp only [List.map_toArray, List.map_cons, List.map_nil]); first | done | rfl | (simp only [List.length_drop, List.length_take]; rfl)) ?_; (with_reducible refine (spec_l30Open.calls _ _ l0 t316 t317 w _ ?side1 ?side2 ?side3 A2.out).mono ?_); (case side1 => repeat (first | (with_reducible first | exact HB.out | apply below_alloc | apply pw_below_drewN | apply below_drew1) | exact HB.out)); (case side2 => exact HR0.out); (case side3 => exact HC0.out); rintro e w7 ⟨g318, rfl, hi, hb, hb2⟩; refine ⟨_, rfl, ?_⟩; have n0_ := Aside0.mk (hb); have n1_ := Aside0.mk (hi); clear HB; have HB := n0_; have HI318 := n1_; clear n0_ n1_; (try clear hb); (try clear hb2); (try clear hk); (try clear hi)) | ((with_reducible refine gate_callee (f := 79) rfl ?_); refine goesL_ (some 9) rfl rfl Try.func79 (by kernel_rfl) rfl #[.pointer (some ⟨g318, 0, none⟩)] rfl (by (try simp only [List.map_toArray, List.map_cons, List.map_nil]); first | done | rfl | (simp only [List.length_drop, List.length_take]; rfl)) ?_; (with_reducible refine (spec_l30AnyText.calls k g318 t316 t317 t319 t322 w _ ?side1 ?side2 A3.out).mono ?_); (case side1 => repeat (first | (with_reducible first | exact HI318.out | apply IsS106.alloc | apply IsS106.drewN | apply IsS106.drew | apply IsS106.set_1) | exact HI318.out)); (case side2 => repeat (first | (with_reducible first | exact HB.out | apply below_alloc | apply pw_below_drewN | apply below_drew1 | refine below_set ?_ (IsS106.ge HI318.out)) | exact HB.out)); rintro e w8 ⟨v320, rfl, ho0, hi, hb, hk⟩; refine ⟨_, rfl, ?_⟩; have n0_ := Aside0.mk (Kd.R_lower ho0 (below_size (by repeat (first | (with_reducible first | exact HB.out | apply below_alloc | apply pw_below_drewN | apply below_drew1 | refine below_set ?_ (IsS106.ge HI318.out)) | exact HB.out)))); have n1_ := Aside0.mk (hb); have n2_ := Aside0.mk (hi); clear HB; clear HI318; have HO321 := n0_; have HB := n1_; have HI318 := n2_; clear n0_ n1_ n2_; (try clear hb); (try clear hb2); (try clear hk); (try clear hi); (try clear ho0)) | ((with_reducible refine gate_callee (f := 81) rfl ?_); refine goesL_ (some 11) rfl rfl Try.func81 (by kernel_rfl) rfl #[.pointer (some ⟨g318, 0, none⟩), .int .i64 4] rfl (by (try simp only [List.map_toArray, List.map_cons, List.map_nil]); first | done | rfl | (simp only [List.length_drop, List.length_take]; rfl)) ?_; (with_reducible refine (spec_l30Rd_pick.calls k g318 t316 t322 4 t323 t324 w _ ?side1 ?side2 A4.out).mono ?_); (case side1 => repeat (first | (with_reducible first | exact HI318.out | apply IsS106.alloc | apply IsS106.drewN | apply IsS106.drew | apply IsS106.set_1) | exact HI318.out)); (case side2 => repeat (first | (with_reducible first | exact HB.out | apply below_alloc | apply pw_below_drewN | apply below_drew1 | refine below_set ?_ (IsS106.ge HI318.out)) | exact HB.out)); rintro e w9 ⟨rfl, hi, hb, hk⟩; refine ⟨_, rfl, ?_⟩; have n0_ := Aside0.mk (Kd.R_mono (Kd.R_keep (IsS106.apart (show IsS106 w _ g318 t316 t322 from by repeat (first | (with_reducible first | exact HI318.out | apply IsS106.alloc | apply IsS106.drewN | apply IsS106.drew | apply IsS106.set_1) | exact HI318.out)) (by (with_reducible repeat (first | apply Kd.R_alloc | apply Kd.R_drewN | apply Kd.R_drew)); exact HO321.out) (by decide)) hk (fun _ h => h.2)) (fun _ h => h.1)); have n1_ := Aside0.mk (hb); have n2_ := Aside0.mk (hi); clear HO321; clear HB; clear HI318; have HO321 := n0_; have HB := n1_; have HI318 := n2_; clear n0_ n1_ n2_; (try clear hb); (try clear hb2); (try clear hk); (try clear hi)) | ((with_reducible refine gate_callee (f := 79) rfl ?_); refine goesL_ (some 15) rfl rfl Try.func79 (by kernel_rfl) rfl #[.pointer (some ⟨g318, 0, none⟩)] rfl (by (try simp only [List.map_toArray, List.map_cons, List.map_nil]); first | done | rfl | (simp only [List.length_drop, List.length_take]; rfl)) ?_; (with_reducible refine (spec_l30AnyText.calls k g318 t316 t324 t325 t328 w _ ?side1 ?side2 A6.out).mono ?_); (case side1 => repeat (first | (with_reducible first | exact HI318.out | apply IsS106.alloc | apply IsS106.drewN | apply IsS106.drew | apply IsS106.set_1) | exact HI318.out)); (case side2 => repeat (first | (with_reducible first | exact HB.out | apply below_alloc | apply pw_below_drewN | apply below_drew1 | refine below_set ?_ (IsS106.ge HI318.out)) | exact HB.out)); rintro e w10 ⟨v326, rfl, ho0, hi, hb, hk⟩; refine ⟨_, rfl, ?_⟩; have n0_ := Aside0.mk (Kd.R_mono (Kd.R_told (Kd.R_oldK (IsS106.apart (show IsS106 w _ g318 t316 t324 from by repeat (first | (with_reducible first | exact HI318.out | apply IsS106.alloc | apply IsS106.drewN | apply IsS106.drew | apply IsS106.set_1) | exact HI318.out)) (by (with_reducible repeat (first | apply Kd.R_alloc | apply Kd.R_drewN | apply Kd.R_drew)); exact HO321.out) (by decide)) hk) (Kd.R_base ho0)) (fun _ h_ => h_.1)); have n1_ := Aside0.mk (Kd.R_lower (Kd.R_new' ho0 (Kd.R_lt (by (with_reducible repeat (first | apply Kd.R_alloc | apply Kd.R_drewN | apply Kd.R_drew)); exact HO321.out))) (below_size (by repeat (first | (with_reducible first | exact HB.out | apply below_alloc | apply pw_below_drewN | apply below_drew1 | refine below_set ?_ (IsS106.ge HI318.out)) | exact HB.out)))); have n2_ := Aside0.mk (hb); have n3_ := Aside0.mk (hi); clear HO321; clear HB; clear HI318; have HO321 := n0_; have HO327 := n1_; have HB := n2_; have HI318 := n3_; clear n0_ n1_ n2_ n3_; (try clear hb); (try clear hb2); (try clear hk); (try clear hi); (try clear ho0)))
   go_ret2
   exact ⟨_, _, by first | rfl | (simp [errW_none, errW_some] <;> rfl) | (simp [*, errW_none, errW_some] <;> rfl), by (with_reducible repeat (first | apply Kd.R_alloc | apply Kd.R_drewN | apply Kd.R_drew)); exact Kd.R_mono HO321.out (fun _ hk => hk.2), by (with_reducible repeat (first | apply Kd.R_alloc | apply Kd.R_drewN | apply Kd.R_drew)); exact Kd.R_mono HO327.out (fun _ hk => hk.2), by repeat (first | (with_reducible first | exact HB.out | apply below_alloc | apply pw_below_drewN | apply below_drew1 | refine below_set ?_ (IsS106.ge HI318.out)) | exact HB.out)⟩
 · rw [if_neg c5] at H
   have c5b0 : (t323 == 0) = false := beq_eq_false_iff_ne.mpr c5
   have c5b1 : (t323 != 0) = true := bne_iff_ne.mpr c5
   replace H := Option.bind_eq_some_iff.mp H
   obtain ⟨⟨t329, t332⟩, A110, H⟩ := H
   replace H : (some (t319, t329)) = some (r1, r2) := H
   have A11 := Aside0.mk A110
   clear A110
   simp only [Option.some.injEq, Prod.mk.injEq] at H
   obtain ⟨rfl, rfl⟩ := H
   go_enter Try.func69, Try.ntmps69
   go_wp2_with (first | ((with_reducible refine gate_callee (f := 78) rfl ?_); refine goesL_ (some 7) rfl rfl Try.func78 (by kernel_rfl) rfl #[.slice A0 l0.length c0] rfl (by (try simp only [List.map_toArray, List.map_cons, List.map_nil]); first | done | rfl | (simp only [List.length_drop, List.length_take]; rfl)) ?_; (with_reducible refine (spec_l30Open.calls _ _ l0 t316 t317 w _ ?side1 ?side2 ?side3 A2.out).mono ?_); (case side1 => repeat (first | (with_reducible first | exact HB.out | apply below_alloc | apply pw_below_drewN | apply below_drew1) | exact HB.out)); (case side2 => exact HR0.out); (case side3 => exact HC0.out); rintro e w12 ⟨g318, rfl, hi, hb, hb2⟩; refine ⟨_, rfl, ?_⟩; have n0_ := Aside0.mk (hb); have n1_ := Aside0.mk (hi); clear HB; have HB := n0_; have HI318 := n1_; clear n0_ n1_; (try clear hb); (try clear hb2); (try clear hk); (try clear hi)) | ((with_reducible refine gate_callee (f := 79) rfl ?_); refine goesL_ (some 9) rfl rfl Try.func79 (by kernel_rfl) rfl #[.pointer (some ⟨g318, 0, none⟩)] rfl (by (try simp only [List.map_toArray, List.map_cons, List.map_nil]); first | done | rfl | (simp only [List.length_drop, List.length_take]; rfl)) ?_; (with_reducible refine (spec_l30AnyText.calls k g318 t316 t317 t319 t322 w _ ?side1 ?side2 A3.out).mono ?_); (case side1 => repeat (first | (with_reducible first | exact HI318.out | apply IsS106.alloc | apply IsS106.drewN | apply IsS106.drew | apply IsS106.set_1) | exact HI318.out)); (case side2 => repeat (first | (with_reducible first | exact HB.out | apply below_alloc | apply pw_below_drewN | apply below_drew1 | refine below_set ?_ (IsS106.ge HI318.out)) | exact HB.out)); rintro e w13 ⟨v320, rfl, ho0, hi, hb, hk⟩; refine ⟨_, rfl, ?_⟩; have n0_ := Aside0.mk (Kd.R_lower ho0 (below_size (by repeat (first | (with_reducible first | exact HB.out | apply below_alloc | apply pw_below_drewN | apply below_drew1 | refine below_set ?_ (IsS106.ge HI318.out)) | exact HB.out)))); have n1_ := Aside0.mk (hb); have n2_ := Aside0.mk (hi); clear HB; clear HI318; have HO321 := n0_; have HB := n1_; have HI318 := n2_; clear n0_ n1_ n2_; (try clear hb); (try clear hb2); (try clear hk); (try clear hi); (try clear ho0)) | ((with_reducible refine gate_callee (f := 81) rfl ?_); refine goesL_ (some 11) rfl rfl Try.func81 (by kernel_rfl) rfl #[.pointer (some ⟨g318, 0, none⟩), .int .i64 4] rfl (by (try simp only [List.map_toArray, List.map_cons, List.map_nil]); first | done | rfl | (simp only [List.length_drop, List.length_take]; rfl)) ?_; (with_reducible refine (spec_l30Rd_pick.calls k g318 t316 t322 4 t323 t324 w _ ?side1 ?side2 A4.out).mono ?_); (case side1 => repeat (first | (with_reducible first | exact HI318.out | apply IsS106.alloc | apply IsS106.drewN | apply IsS106.drew | apply IsS106.set_1) | exact HI318.out)); (case side2 => repeat (first | (with_reducible first | exact HB.out | apply below_alloc | apply pw_below_drewN | apply below_drew1 | refine below_set ?_ (IsS106.ge HI318.out)) | exact HB.out)); rintro e w14 ⟨rfl, hi, hb, hk⟩; refine ⟨_, rfl, ?_⟩; have n0_ := Aside0.mk (Kd.R_mono (Kd.R_keep (IsS106.apart (show IsS106 w _ g318 t316 t322 from by repeat (first | (with_reducible first | exact HI318.out | apply IsS106.alloc | apply IsS106.drewN | apply IsS106.drew | apply IsS106.set_1) | exact HI318.out)) (by (with_reducible repeat (first | apply Kd.R_alloc | apply Kd.R_drewN | apply Kd.R_drew)); exact HO321.out) (by decide)) hk (fun _ h => h.2)) (fun _ h => h.1)); have n1_ := Aside0.mk (hb); have n2_ := Aside0.mk (hi); clear HO321; clear HB; clear HI318; have HO321 := n0_; have HB := n1_; have HI318 := n2_; clear n0_ n1_ n2_; (try clear hb); (try clear hb2); (try clear hk); (try clear hi); obtain ⟨Ao15, co15, eo15⟩ := Kd.R_slice HO321.out; subst eo15) | ((with_reducible refine gate_callee (f := 82) rfl ?_); refine goesL_ (some 19) rfl rfl Try.func82 (by kernel_rfl) rfl #[.pointer (some ⟨g318, 0, none⟩), .slice Ao15 t319.length co15] rfl (by (try simp only [List.map_toArray, List.map_cons, List.map_nil]); first | done | rfl | (simp only [List.length_drop, List.length_take]; rfl)) ?_; (with_reducible refine (spec_l30Turn.calls k g318 t316 t324 _ _ t319 t329 t332 w _ ?side1 ?side2 ?side3 ?side4 ?side5 A11.out).mono ?_); (case side1 => repeat (first | (with_reducible first | exact HI318.out | apply IsS106.alloc | apply IsS106.drewN | apply IsS106.drew | apply IsS106.set_1) | exact HI318.out)); (case side2 => repeat (first | (with_reducible first | exact HB.out | apply below_alloc | apply pw_below_drewN | apply below_drew1 | refine below_set ?_ (IsS106.ge HI318.out)) | exact HB.out)); (case side3 => repeat (first | exact (Kd.R_reads' HO321.out).2.2 | (with_reducible refine Kd.C_alloc ?_ _) | (with_reducible refine Kd.C_drewN ?_ _) | (with_reducible refine Kd.C_drew ?_))); (case side4 => exact (Kd.R_reads' HO321.out).2.1); (case side5 => exact far_slice (IsS106.own_ne HI318.out HO321.out (by decide))); rintro e w16 ⟨v330, rfl, ho0, hi, hb, hk⟩; refine ⟨_, rfl, ?_⟩; have n0_ := Aside0.mk (Kd.R_mono (Kd.R_told (Kd.R_oldK (IsS106.apart (show IsS106 w _ g318 t316 t324 from by repeat (first | (with_reducible first | exact HI318.out | apply IsS106.alloc | apply IsS106.drewN | apply IsS106.drew | apply IsS106.set_1) | exact HI318.out)) (by (with_reducible repeat (first | apply Kd.R_alloc | apply Kd.R_drewN | apply Kd.R_drew)); exact HO321.out) (by decide)) hk) (Kd.R_base ho0)) (fun _ h_ => h_.1)); have n1_ := Aside0.mk (Kd.R_lower (Kd.R_new' ho0 (Kd.R_lt (by (with_reducible repeat (first | apply Kd.R_alloc | apply Kd.R_drewN | apply Kd.R_drew)); exact HO321.out))) (below_size (by repeat (first | (with_reducible first | exact HB.out | apply below_alloc | apply pw_below_drewN | apply below_drew1 | refine below_set ?_ (IsS106.ge HI318.out)) | exact HB.out)))); have n2_ := Aside0.mk (hb); have n3_ := Aside0.mk (hi); clear HO321; clear HB; clear HI318; have HO321 := n0_; have HO331 := n1_; have HB := n2_; have HI318 := n3_; clear n0_ n1_ n2_ n3_; (try clear hb); (try clear hb2); (try clear hk); (try clear hi); (try clear ho0)))
   go_ret2
   exact ⟨_, _, by first | rfl | (simp [errW_none, errW_some] <;> rfl) | (simp [*, errW_none, errW_some] <;> rfl), by (with_reducible repeat (first | apply Kd.R_alloc | apply Kd.R_drewN | apply Kd.R_drew)); exact Kd.R_mono HO321.out (fun _ hk => hk.2), by (with_reducible repeat (first | apply Kd.R_alloc | apply Kd.R_drewN | apply Kd.R_drew)); exact Kd.R_mono HO331.out (fun _ hk => hk.2), by repeat (first | (with_reducible first | exact HB.out | apply below_alloc | apply pw_below_drewN | apply below_drew1 | refine below_set ?_ (IsS106.ge HI318.out)) | exact HB.out)⟩
end Go.Proofs.Ytfnhjaiioojbkaa.Q
end
section
namespace Go.Proofs.Ytfnhjaiioojbkaa.Q
open Go.RowKit Go.Proofs.YtfnhjaiioojbkaaW.PrintWords Go.Proofs.YtfnhjaiioojbkaaW.PrintLast Go.Proofs.YtfnhjaiioojbkaaW.PrintMore
attribute [local go_sem] max2_int min2_int max_two min_two max_three min_three max_four min_four   -- for this text's walks alone
set_option linter.unusedVariables false
set_option linter.unusedSimpArgs false
def spec_DrawDeltaOf.f (k : Nat) (l0 : List Int) : Option (List ByteArray × List ByteArray) := (spec_l30Two.f k l0).bind fun bt333 => (some (bt333.1, bt333.2))
theorem spec_DrawDeltaOf.mono : ∀ a0 k, LeO (spec_DrawDeltaOf.f k a0) (spec_DrawDeltaOf.f (k + 1) a0) := by
 intro a0 k
 unfold spec_DrawDeltaOf.f
 repeat' first
  | (with_reducible exact spec_l30Two.mono _ _)
  | (with_reducible exact LeO.refl _)
  | (with_reducible exact LeO.none _)
  | (with_reducible refine LeO.ite ?_ ?_)
  | (with_reducible refine LeO.bind ?_ (fun _ => ?_))
  | exact spec_l30Two.mono _ _
  | exact LeO.none _
  | refine LeO.ite ?_ ?_
  | refine LeO.bind ?_ (fun _ => ?_)
set_option maxHeartbeats 8000000 in
set_option maxRecDepth 100000 in
theorem spec_DrawDeltaOf.calls (k : Nat) (A0 : Option Addr) (c0 : Nat) (l0 : List Int) (r1 : List ByteArray) (r2 : List ByteArray) (w : World) (hr0 : Kd.C (Kd.int .u8) w A0 l0.length l0) (hc0 : l0.length ≤ c0) (h : spec_DrawDeltaOf.f k l0 = some (r1, r2)) :
 Calls Try.prog 20 #[.slice A0 l0.length c0] w fun e w' => ∃ v0_ v1_ : Value, e = .returned (.tuple #[v0_, v1_]) ∧ Kd.R Kd.string 9 w' w.heap.size (fun k_ => some k_ ≠ (v1_ : Value).ownBlock) v0_ r1 ∧ Kd.R Kd.string 9 w' w.heap.size (fun k_ => some k_ ≠ (v0_ : Value).ownBlock) v1_ r2 ∧ Below w.heap.size w w' := by
 have HR0 := Aside0.mk hr0
 have HC0 := Aside0.mk hc0
 clear hr0 hc0
 have HB := Aside0.mk (Below.refl w.heap.size w)
 have H : ((spec_l30Two.f k l0).bind fun bt333 => (some (bt333.1, bt333.2))) = some (r1, r2) := h
 clear h
 replace H := Option.bind_eq_some_iff.mp H
 obtain ⟨⟨t333, t334⟩, A20, H⟩ := H
 replace H : (some (t333, t334)) = some (r1, r2) := H
 have A2 := Aside0.mk A20
 clear A20
 simp only [Option.some.injEq, Prod.mk.injEq] at H
 obtain ⟨rfl, rfl⟩ := H
 go_enter Try.func20, Try.ntmps20
 go_wp2_with (first | ((with_reducible refine gate_callee (f := 69) rfl ?_); refine goesL_ (some 5) rfl rfl Try.func69 (by kernel_rfl) rfl #[.slice A0 l0.length c0] rfl (by (try simp only [List.map_toArray, List.map_cons, List.map_nil]); first | done | rfl | (simp only [List.length_drop, List.length_take]; rfl)) ?_; (with_reducible refine (spec_l30Two.calls k _ _ l0 t333 t334 _ ?side1 ?side2 A2.out).mono ?_); (case side1 => repeat (first | exact HR0.out | (with_reducible refine Kd.C_alloc ?_ _) | (with_reducible refine Kd.C_drewN ?_ _) | (with_reducible refine Kd.C_drew ?_))); (case side2 => exact HC0.out); rintro e w3 ⟨v335, v337, rfl, ho0, ho1, hb⟩; refine ⟨_, rfl, ?_⟩; have n0_ := Aside0.mk (Kd.R_lower ho0 (below_size (by repeat (first | (with_reducible first | exact HB.out | apply below_alloc | apply pw_below_drewN | apply below_drew1) | exact HB.out)))); have n1_ := Aside0.mk (Kd.R_lower ho1 (below_size (by repeat (first | (with_reducible first | exact HB.out | apply below_alloc | apply pw_below_drewN | apply below_drew1) | exact HB.out)))); have n2_ := Aside0.mk (below_step (by repeat (first | (with_reducible first | exact HB.out | apply below_alloc | apply pw_below_drewN | apply below_drew1) | exact HB.out)) hb); clear HB; have HO336 := n0_; have HO338 := n1_; have HB := n2_; clear n0_ n1_ n2_; (try clear hb); (try clear hb2); (try clear hk); (try clear hi); (try clear ho0); (try clear ho1)))
 go_ret2
 exact ⟨_, _, by first | rfl | (simp [errW_none, errW_some] <;> rfl) | (simp [*, errW_none, errW_some] <;> rfl), by (with_reducible repeat (first | apply Kd.R_alloc | apply Kd.R_drewN | apply Kd.R_drew)); exact HO336.out, by (with_reducible repeat (first | apply Kd.R_alloc | apply Kd.R_drewN | apply Kd.R_drew)); exact HO338.out, by repeat (first | (with_reducible first | exact HB.out | apply below_alloc | apply pw_below_drewN | apply below_drew1) | exact HB.out)⟩
end Go.Proofs.Ytfnhjaiioojbkaa.Q
end
section
namespace Go.Proofs.Ytfnhjaiioojbkaa.Q
open Go.RowKit Go.Proofs.YtfnhjaiioojbkaaW.PrintWords Go.Proofs.YtfnhjaiioojbkaaW.PrintLast Go.Proofs.YtfnhjaiioojbkaaW.PrintMore
attribute [local go_sem] max2_int min2_int max_two min_two max_three min_three max_four min_four   -- for this text's walks alone
set_option linter.unusedVariables false
set_option linter.unusedSimpArgs false
mutual
def impl_longestRun.l0 : Nat → List ByteArray → List ByteArray → Int → Int → Int → Int → Option (Int × Int)
 | 0, _, _, _, _, _, _ => none
 | k + 1, x0, x1, x6, x7, x11, x12 => if x12 < x11 then (impl_longestRun.l1 k x0 x1 x6 x7 x12 0 x11 x12) else (some (x6, x7))
def impl_longestRun.l1 : Nat → List ByteArray → List ByteArray → Int → Int → Int → Int → Int → Int → Option (Int × Int)
 | 0, _, _, _, _, _, _, _, _ => none
 | k + 1, x0, x1, x6, x7, x8, x9, x11, x12 => if (wrap64 (x8 + x9)) < (x0.length : Int) then (if x9 < (x1.length : Int) then (if 0 ≤ (wrap64 (x8 + x9)) then (if 0 ≤ x9 then (if (rdOf ByteArray.empty x0 (wrap64 (x8 + x9))).toList = (rdOf ByteArray.empty x1 x9).toList then (impl_longestRun.l1 k x0 x1 x6 x7 x8 (wrap64 (x9 + 1)) x11 x12) else (if x9 > x7 then (impl_longestRun.l0 k x0 x1 x8 x9 x11 (wrap64 (x12 + 1))) else (impl_longestRun.l0 k x0 x1 x6 x7 x11 (wrap64 (x12 + 1))))) else (none)) else (none)) else (if x9 > x7 then (impl_longestRun.l0 k x0 x1 x8 x9 x11 (wrap64 (x12 + 1))) else (impl_longestRun.l0 k x0 x1 x6 x7 x11 (wrap64 (x12 + 1))))) else (if x9 > x7 then (impl_longestRun.l0 k x0 x1 x8 x9 x11 (wrap64 (x12 + 1))) else (impl_longestRun.l0 k x0 x1 x6 x7 x11 (wrap64 (x12 + 1))))
end
def impl_longestRun.f (k : Nat) (l0 : List ByteArray) (l1 : List ByteArray) : Option (Int × Int) := impl_longestRun.l0 k l0 l1 0 0 (l0.length : Int) 0
theorem impl_longestRun.mono_l : ∀ k, (∀ y0 y1 y2 y3 y4 y5, LeO (impl_longestRun.l0 k y0 y1 y2 y3 y4 y5) (impl_longestRun.l0 (k + 1) y0 y1 y2 y3 y4 y5)) ∧ (∀ y0 y1 y2 y3 y4 y5 y6 y7, LeO (impl_longestRun.l1 k y0 y1 y2 y3 y4 y5 y6 y7) (impl_longestRun.l1 (k + 1) y0 y1 y2 y3 y4 y5 y6 y7))
 | 0 => ⟨fun _ _ _ _ _ _ r h => by simp [impl_longestRun.l0] at h, fun _ _ _ _ _ _ _ _ r h => by simp [impl_longestRun.l1] at h⟩
 | k + 1 => by
  obtain ⟨ih0, ih1⟩ := impl_longestRun.mono_l k
  refine ⟨?_, ?_⟩
  · intro y0 y1 y2 y3 y4 y5
    unfold impl_longestRun.l0
    repeat' first
    | (with_reducible exact ih0 _ _ _ _ _ _)
    | (with_reducible exact ih1 _ _ _ _ _ _ _ _)
    | (with_reducible exact LeO.refl _)
    | (with_reducible exact LeO.none _)
    | (with_reducible refine LeO.ite ?_ ?_)
    | (with_reducible refine LeO.bind ?_ (fun _ => ?_))
    | exact ih0 _ _ _ _ _ _
    | exact ih1 _ _ _ _ _ _ _ _
    | exact LeO.none _
    | refine LeO.ite ?_ ?_
    | refine LeO.bind ?_ (fun _ => ?_)
  · intro y0 y1 y2 y3 y4 y5 y6 y7
    unfold impl_longestRun.l1
    repeat' first
    | (with_reducible exact ih0 _ _ _ _ _ _)
    | (with_reducible exact ih1 _ _ _ _ _ _ _ _)
    | (with_reducible exact LeO.refl _)
    | (with_reducible exact LeO.none _)
    | (with_reducible refine LeO.ite ?_ ?_)
    | (with_reducible refine LeO.bind ?_ (fun _ => ?_))
    | exact ih0 _ _ _ _ _ _
    | exact ih1 _ _ _ _ _ _ _ _
    | exact LeO.none _
    | refine LeO.ite ?_ ?_
    | refine LeO.bind ?_ (fun _ => ?_)
theorem impl_longestRun.mono : ∀ a0 a1 k, LeO (impl_longestRun.f k a0 a1) (impl_longestRun.f (k + 1) a0 a1) := by
 intro a0 a1 k
 obtain ⟨ih0, ih1⟩ := impl_longestRun.mono_l k
 unfold impl_longestRun.f
 repeat' first
  | (with_reducible exact ih0 _ _ _ _ _ _)
  | (with_reducible exact ih1 _ _ _ _ _ _ _ _)
  | (with_reducible exact LeO.refl _)
  | (with_reducible exact LeO.none _)
  | (with_reducible refine LeO.ite ?_ ?_)
  | (with_reducible refine LeO.bind ?_ (fun _ => ?_))
  | exact ih0 _ _ _ _ _ _
  | exact ih1 _ _ _ _ _ _ _ _
  | exact LeO.none _
  | refine LeO.ite ?_ ?_
  | refine LeO.bind ?_ (fun _ => ?_)
set_option maxHeartbeats 8000000 in
set_option maxRecDepth 100000 in
theorem impl_longestRun.calls (k : Nat) (A0 : Option Addr) (c0 : Nat) (l0 : List ByteArray) (A1 : Option Addr) (c1 : Nat) (l1 : List ByteArray) (r1 : Int) (r2 : Int) (w : World) (hr0 : Kd.C Kd.string w A0 l0.length l0) (hc0 : l0.length ≤ c0) (hr1 : Kd.C Kd.string w A1 l1.length l1) (hc1 : l1.length ≤ c1) (h : impl_longestRun.f k l0 l1 = some (r1, r2)) :
 Calls Try.prog 102 #[.slice A0 l0.length c0, .slice A1 l1.length c1] w fun e w' => e = .returned (.tuple #[.int .i64 r1, .int .i64 r2]) ∧ Drawn0 w w' := by
 have HR0 := Aside0.mk hr0
 have HC0 := Aside0.mk hc0
 clear hr0 hc0
 have HR1 := Aside0.mk hr1
 have HC1 := Aside0.mk hc1
 clear hr1 hc1
 have H : (impl_longestRun.l0 k l0 l1 0 0 (l0.length : Int) 0) = some (r1, r2) := h
 clear h
 have H' := Aside0.mk H
 clear H
 go_enter Try.func102, Try.ntmps102
 go_wp2
 repeat (go_quiet (fail); try go_wp2)
 go_loopg [6, 7, 12] k (fun kq v6 v7 v12 w' => ∃ (x6_1 : Int) (x7_1 : Int) (x12_1 : Int), v6 = .int .i64 x6_1 ∧ v7 = .int .i64 x7_1 ∧ v12 = .int .i64 x12_1 ∧ Aside0 (impl_longestRun.l0 kq l0 l1 x6_1 x7_1 (l0.length : Int) x12_1 = some (r1, r2)) ∧ Aside0 (kq ≤ k) ∧ Drawn0 w w')
 case atStart => exact ⟨(0), (0), (0), (by first | rfl | (simp; done) | (simp [*]; done)), (by first | rfl | (simp; done) | (simp [*]; done)), (by first | rfl | (simp; done) | (simp [*]; done)), H', ⟨Nat.le_refl _⟩, by repeat (first | exact Drawn0.refl _ | apply Drawn0.step)⟩
 case round =>
  clear H'
  try clear c1
  try clear p2
  obtain ⟨x6_1, x7_1, x12_1, rfl, rfl, rfl, HA, HK1, ⟨m1, rfl⟩⟩ := hrel
  cases gk with
  | zero => exact absurd HA.out (by simp [impl_longestRun.l0])
  | succ k1 =>
   have H := HA.out
   clear HA
   simp only [impl_longestRun.l0] at H
   by_cases c3 : x12_1 < (l0.length : Int)
   · rw [if_pos c3] at H
     have c3b0 : decide (x12_1 < (l0.length : Int)) = true := decide_eq_true c3
     clear c3
     have H' := Aside0.mk H
     clear H
     go_wp2
     repeat (go_quiet (fail); try go_wp2)
     go_loopg [9] k1 (fun kq v9 w' => ∃ (x9_2 : Int), v9 = .int .i64 x9_2 ∧ Aside0 (impl_longestRun.l1 kq l0 l1 x6_1 x7_1 x12_1 x9_2 (l0.length : Int) x12_1 = some (r1, r2)) ∧ Aside0 (kq ≤ k1) ∧ Drawn0 w w')
     case atStart => exact ⟨(0), (by first | rfl | (simp; done) | (simp [*]; done)), H', ⟨Nat.le_refl _⟩, by repeat (first | exact Drawn0.refl _ | apply Drawn0.step)⟩
     case round =>
      clear H'
      try clear c1
      try clear p2
      try clear c3
      try clear c3b0
      try clear p2
      obtain ⟨x9_2, rfl, HA, HK2, ⟨m2, rfl⟩⟩ := hrel
      cases gk with
      | zero => exact absurd HA.out (by simp [impl_longestRun.l1])
      | succ k2 =>
       have H := HA.out
       clear HA
       simp only [impl_longestRun.l1] at H
       by_cases c4 : (wrap64 (x12_1 + x9_2)) < (l0.length : Int)
       · rw [if_pos c4] at H
         have c4b0 : decide ((wrap64 (x12_1 + x9_2)) < (l0.length : Int)) = true := decide_eq_true c4
         clear c4
         by_cases c5 : x9_2 < (l1.length : Int)
         · rw [if_pos c5] at H
           have c5b0 : decide (x9_2 < (l1.length : Int)) = true := decide_eq_true c5
           clear c5
           obtain ⟨ji6, hji6⟩ : ∃ j_ : Int, (wrap64 (x12_1 + x9_2)) = j_ := ⟨_, rfl⟩
           replace H : (if 0 ≤ (ji6) then (if 0 ≤ x9_2 then (if (rdOf ByteArray.empty l0 (ji6)).toList = (rdOf ByteArray.empty l1 x9_2).toList then (impl_longestRun.l1 k2 l0 l1 x6_1 x7_1 x12_1 (wrap64 (x9_2 + 1)) (l0.length : Int) x12_1) else (if x9_2 > x7_1 then (impl_longestRun.l0 k2 l0 l1 x12_1 x9_2 (l0.length : Int) (wrap64 (x12_1 + 1))) else (impl_longestRun.l0 k2 l0 l1 x6_1 x7_1 (l0.length : Int) (wrap64 (x12_1 + 1))))) else (none)) else (none)) = some (r1, r2) := by first | (rw [hji6] at H; exact H) | (simp only [hji6] at H ⊢; exact H)
           (try rw [hji6] at c4b0)
           have hji6w : (IntKind.i64.wrap (x12_1 + x9_2)) = ji6 := (i64_w _).trans hji6
           by_cases c7 : 0 ≤ (ji6)
           · rw [if_pos c7] at H
             have c7b0 : decide (0 ≤ (ji6)) = true := decide_eq_true c7
             clear c7
             by_cases c8 : 0 ≤ x9_2
             · rw [if_pos c8] at H
               have c8b0 : decide (0 ≤ x9_2) = true := decide_eq_true c8
               clear c8
               by_cases c9 : (rdOf ByteArray.empty l0 (ji6)).toList = (rdOf ByteArray.empty l1 x9_2).toList
               · rw [if_pos c9] at H
                 have c9b0 : ((rdOf ByteArray.empty l0 (ji6)).toList == (rdOf ByteArray.empty l1 x9_2).toList) = true := beq_iff_eq.mpr c9
                 have c9b1 : ((rdOf ByteArray.empty l0 (ji6)).toList != (rdOf ByteArray.empty l1 x9_2).toList) = false := bne_eq_false_iff_eq.mpr c9
                 clear c9
                 have H' := Aside0.mk H
                 clear H
                 have p339 : 0 ≤ ((ji6) : Int) := of_decide_eq_true (by assumption)
                 have q339 : (ji6) < (l0.length : Int) := of_decide_eq_true (by assumption)
                 obtain ⟨ad339, e339, hx339_0⟩ := Kd.at_string HR0.out (ji6) p339 q339
                 cases e339
                 replace p339 := eq_true p339
                 replace q339 := eq_true q339
                 have p340 : 0 ≤ (x9_2 : Int) := of_decide_eq_true (by assumption)
                 have q340 : x9_2 < (l1.length : Int) := of_decide_eq_true (by assumption)
                 obtain ⟨ad340, e340, hx340_0⟩ := Kd.at_string HR1.out x9_2 p340 q340
                 cases e340
                 replace p340 := eq_true p340
                 replace q340 := eq_true q340
                 go_wp2
                 repeat (go_quiet (fail); try go_wp2)
                 go_roundg k2
                 case measure => have := HK1.out; have := HK2.out; omega
                 case rel => exact ⟨(wrap64 (x9_2 + 1)), (by first | rfl | (simp; done) | (simp [*]; done)), H', ⟨by have := HK1.out; have := HK2.out; omega⟩, by repeat (first | exact Drawn0.refl _ | apply Drawn0.step)⟩
               · rw [if_neg c9] at H
                 have c9b0 : ((rdOf ByteArray.empty l0 (ji6)).toList == (rdOf ByteArray.empty l1 x9_2).toList) = false := beq_eq_false_iff_ne.mpr c9
                 have c9b1 : ((rdOf ByteArray.empty l0 (ji6)).toList != (rdOf ByteArray.empty l1 x9_2).toList) = true := bne_iff_ne.mpr c9
                 by_cases c10 : x9_2 > x7_1
                 · rw [if_pos c10] at H
                   have c10b0 : decide (x7_1 < x9_2) = true := decide_eq_true c10
                   clear c10
                   have H' := Aside0.mk H
                   clear H
                   have p339 : 0 ≤ ((ji6) : Int) := of_decide_eq_true (by assumption)
                   have q339 : (ji6) < (l0.length : Int) := of_decide_eq_true (by assumption)
                   obtain ⟨ad339, e339, hx339_0⟩ := Kd.at_string HR0.out (ji6) p339 q339
                   cases e339
                   replace p339 := eq_true p339
                   replace q339 := eq_true q339
                   have p340 : 0 ≤ (x9_2 : Int) := of_decide_eq_true (by assumption)
                   have q340 : x9_2 < (l1.length : Int) := of_decide_eq_true (by assumption)
                   obtain ⟨ad340, e340, hx340_0⟩ := Kd.at_string HR1.out x9_2 p340 q340
                   cases e340
                   replace p340 := eq_true p340
                   replace q340 := eq_true q340
                   go_wp2
                   repeat (go_quiet (fail); try go_wp2)
                   go_roundg k2
                   case measure => have := HK1.out; have := HK2.out; omega
                   case rel => exact ⟨(x12_1), (x9_2), (wrap64 (x12_1 + 1)), (by first | rfl | (simp; done) | (simp [*]; done)), (by first | rfl | (simp; done) | (simp [*]; done)), (by first | rfl | (simp; done) | (simp [*]; done)), H', ⟨by have := HK1.out; have := HK2.out; omega⟩, by repeat (first | exact Drawn0.refl _ | apply Drawn0.step)⟩
                 · rw [if_neg c10] at H
                   have c10b0 : decide (x7_1 < x9_2) = false := decide_eq_false c10
                   clear c10
                   have H' := Aside0.mk H
                   clear H
                   have p339 : 0 ≤ ((ji6) : Int) := of_decide_eq_true (by assumption)
                   have q339 : (ji6) < (l0.length : Int) := of_decide_eq_true (by assumption)
                   obtain ⟨ad339, e339, hx339_0⟩ := Kd.at_string HR0.out (ji6) p339 q339
                   cases e339
                   replace p339 := eq_true p339
                   replace q339 := eq_true q339
                   have p340 : 0 ≤ (x9_2 : Int) := of_decide_eq_true (by assumption)
                   have q340 : x9_2 < (l1.length : Int) := of_decide_eq_true (by assumption)
                   obtain ⟨ad340, e340, hx340_0⟩ := Kd.at_string HR1.out x9_2 p340 q340
                   cases e340
                   replace p340 := eq_true p340
                   replace q340 := eq_true q340
                   go_wp2
                   repeat (go_quiet (fail); try go_wp2)
                   go_roundg k2
                   case measure => have := HK1.out; have := HK2.out; omega
                   case rel => exact ⟨(x6_1), (x7_1), (wrap64 (x12_1 + 1)), (by first | rfl | (simp; done) | (simp [*]; done)), (by first | rfl | (simp; done) | (simp [*]; done)), (by first | rfl | (simp; done) | (simp [*]; done)), H', ⟨by have := HK1.out; have := HK2.out; omega⟩, by repeat (first | exact Drawn0.refl _ | apply Drawn0.step)⟩
             · rw [if_neg c8] at H
               exact absurd H (by simp)
           · rw [if_neg c7] at H
             exact absurd H (by simp)
         · rw [if_neg c5] at H
           have c5b0 : decide (x9_2 < (l1.length : Int)) = false := decide_eq_false c5
           clear c5
           by_cases c11 : x9_2 > x7_1
           · rw [if_pos c11] at H
             have c11b0 : decide (x7_1 < x9_2) = true := decide_eq_true c11
             clear c11
             have H' := Aside0.mk H
             clear H
             go_wp2
             repeat (go_quiet (fail); try go_wp2)
             go_roundg k2
             case measure => have := HK1.out; have := HK2.out; omega
             case rel => exact ⟨(x12_1), (x9_2), (wrap64 (x12_1 + 1)), (by first | rfl | (simp; done) | (simp [*]; done)), (by first | rfl | (simp; done) | (simp [*]; done)), (by first | rfl | (simp; done) | (simp [*]; done)), H', ⟨by have := HK1.out; have := HK2.out; omega⟩, by repeat (first | exact Drawn0.refl _ | apply Drawn0.step)⟩
           · rw [if_neg c11] at H
             have c11b0 : decide (x7_1 < x9_2) = false := decide_eq_false c11
             clear c11
             have H' := Aside0.mk H
             clear H
             go_wp2
             repeat (go_quiet (fail); try go_wp2)
             go_roundg k2
             case measure => have := HK1.out; have := HK2.out; omega
             case rel => exact ⟨(x6_1), (x7_1), (wrap64 (x12_1 + 1)), (by first | rfl | (simp; done) | (simp [*]; done)), (by first | rfl | (simp; done) | (simp [*]; done)), (by first | rfl | (simp; done) | (simp [*]; done)), H', ⟨by have := HK1.out; have := HK2.out; omega⟩, by repeat (first | exact Drawn0.refl _ | apply Drawn0.step)⟩
       · rw [if_neg c4] at H
         have c4b0 : decide ((wrap64 (x12_1 + x9_2)) < (l0.length : Int)) = false := decide_eq_false c4
         clear c4
         by_cases c12 : x9_2 > x7_1
         · rw [if_pos c12] at H
           have c12b0 : decide (x7_1 < x9_2) = true := decide_eq_true c12
           clear c12
           have H' := Aside0.mk H
           clear H
           go_wp2
           repeat (go_quiet (fail); try go_wp2)
           go_roundg k2
           case measure => have := HK1.out; have := HK2.out; omega
           case rel => exact ⟨(x12_1), (x9_2), (wrap64 (x12_1 + 1)), (by first | rfl | (simp; done) | (simp [*]; done)), (by first | rfl | (simp; done) | (simp [*]; done)), (by first | rfl | (simp; done) | (simp [*]; done)), H', ⟨by have := HK1.out; have := HK2.out; omega⟩, by repeat (first | exact Drawn0.refl _ | apply Drawn0.step)⟩
         · rw [if_neg c12] at H
           have c12b0 : decide (x7_1 < x9_2) = false := decide_eq_false c12
           clear c12
           have H' := Aside0.mk H
           clear H
           go_wp2
           repeat (go_quiet (fail); try go_wp2)
           go_roundg k2
           case measure => have := HK1.out; have := HK2.out; omega
           case rel => exact ⟨(x6_1), (x7_1), (wrap64 (x12_1 + 1)), (by first | rfl | (simp; done) | (simp [*]; done)), (by first | rfl | (simp; done) | (simp [*]; done)), (by first | rfl | (simp; done) | (simp [*]; done)), H', ⟨by have := HK1.out; have := HK2.out; omega⟩, by repeat (first | exact Drawn0.refl _ | apply Drawn0.step)⟩
   · rw [if_neg c3] at H
     have c3b0 : decide (x12_1 < (l0.length : Int)) = false := decide_eq_false c3
     clear c3
     simp only [Option.some.injEq, Prod.mk.injEq] at H
     obtain ⟨rfl, rfl⟩ := H
     go_wp2
     repeat (go_quiet (fail); try go_wp2)
     go_ret2
     exact ⟨by first | rfl | (simp; done) | (simp [*]; done), by repeat (first | exact Drawn0.refl _ | apply Drawn0.step)⟩
end Go.Proofs.Ytfnhjaiioojbkaa.Q
end
section
namespace Go.Proofs.Ytfnhjaiioojbkaa.Q
open Go.RowKit Go.Proofs.YtfnhjaiioojbkaaW.PrintWords Go.Proofs.YtfnhjaiioojbkaaW.PrintLast Go.Proofs.YtfnhjaiioojbkaaW.PrintMore
attribute [local go_sem] max2_int min2_int max_two min_two max_three min_three max_four min_four   -- for this text's walks alone
set_option linter.unusedVariables false
set_option linter.unusedSimpArgs false
def impl_deltaOf.l0 : Nat → List ByteArray → List ByteArray → List (S39) → Option ((List (S39)))
 | 0, _, _, _ => none
 | k + 1, x0, x1, x5 => if (x1.length : Int) > 0 then ((impl_longestRun.f k x0 x1).bind fun bt344 => (if bt344.2 > 0 then (if x5.length < 3518437208883 then (if 0 ≤ bt344.2 then (if bt344.2 ≤ (x1.length : Int) then (impl_deltaOf.l0 k x0 (x1.drop (bt344.2 : Int).toNat) (x5 ++ [(⟨bt344.1, bt344.2, ([] : List ByteArray)⟩ : S39)])) else (none)) else (none)) else (none)) else (if (wrap64 ((x5.length : Int) - 1)) ≥ 0 then (if 0 ≤ (wrap64 ((x5.length : Int) - 1)) then (if (wrap64 ((x5.length : Int) - 1)) < (x5.length : Int) then (if ((rd_T39 x5 (wrap64 ((x5.length : Int) - 1))).f1) = 0 then (if 0 < (x1.length : Int) then (if ((rd_T39 x5 (wrap64 ((x5.length : Int) - 1))).f2).length < 8796093022208 then (if 1 ≤ (x1.length : Int) then (impl_deltaOf.l0 k x0 (x1.drop 1) (x5.set ((wrap64 ((x5.length : Int) - 1)) : Int).toNat (⟨(rd_T39 x5 (wrap64 ((x5.length : Int) - 1))).f0, (rd_T39 x5 (wrap64 ((x5.length : Int) - 1))).f1, (((rd_T39 x5 (wrap64 ((x5.length : Int) - 1))).f2) ++ [rdOf ByteArray.empty x1 0])⟩ : S39))) else (none)) else (none)) else (none)) else (if 0 < (x1.length : Int) then (if x5.length < 3518437208883 then (if 1 ≤ (x1.length : Int) then (impl_deltaOf.l0 k x0 (x1.drop 1) (x5 ++ [(⟨0, 0, (([rdOf ByteArray.empty x1 0] : List ByteArray))⟩ : S39)])) else (none)) else (none)) else (none))) else (none)) else (none)) else (if 0 < (x1.length : Int) then (if x5.length < 3518437208883 then (if 1 ≤ (x1.length : Int) then (impl_deltaOf.l0 k x0 (x1.drop 1) (x5 ++ [(⟨0, 0, (([rdOf ByteArray.empty x1 0] : List ByteArray))⟩ : S39)])) else (none)) else (none)) else (none))))) else (some x5)
def impl_deltaOf.f (k : Nat) (l0 : List ByteArray) (l1 : List ByteArray) : Option ((List (S39))) := impl_deltaOf.l0 k l0 l1 (([] : List (S39)))
theorem impl_deltaOf.mono_l : ∀ k, (∀ y0 y1 y2, LeO (impl_deltaOf.l0 k y0 y1 y2) (impl_deltaOf.l0 (k + 1) y0 y1 y2))
 | 0 => fun _ _ _ r h => by simp [impl_deltaOf.l0] at h
 | k + 1 => by
  have ih0 := impl_deltaOf.mono_l k
  · intro y0 y1 y2
    unfold impl_deltaOf.l0
    repeat' first
    | (with_reducible exact ih0 _ _ _)
    | (with_reducible exact impl_longestRun.mono _ _ _)
    | (with_reducible exact LeO.refl _)
    | (with_reducible exact LeO.none _)
    | (with_reducible refine LeO.ite ?_ ?_)
    | (with_reducible refine LeO.bind ?_ (fun _ => ?_))
    | exact ih0 _ _ _
    | exact impl_longestRun.mono _ _ _
    | exact LeO.none _
    | refine LeO.ite ?_ ?_
    | refine LeO.bind ?_ (fun _ => ?_)
theorem impl_deltaOf.mono : ∀ a0 a1 k, LeO (impl_deltaOf.f k a0 a1) (impl_deltaOf.f (k + 1) a0 a1) := by
 intro a0 a1 k
 have ih0 := impl_deltaOf.mono_l k
 unfold impl_deltaOf.f
 repeat' first
  | (with_reducible exact ih0 _ _ _)
  | (with_reducible exact impl_longestRun.mono _ _ _)
  | (with_reducible exact LeO.refl _)
  | (with_reducible exact LeO.none _)
  | (with_reducible refine LeO.ite ?_ ?_)
  | (with_reducible refine LeO.bind ?_ (fun _ => ?_))
  | exact ih0 _ _ _
  | exact impl_longestRun.mono _ _ _
  | exact LeO.none _
  | refine LeO.ite ?_ ?_
  | refine LeO.bind ?_ (fun _ => ?_)
def impl_deltaOf.T10 : Bool × List (List Nat × List Nat) := (true, [([], []), ([], []), ([], []), ([], []), ([2, 3], [2, 3]), ([4], [4]), ([5], [5]), ([], []), ([7], [7]), ([8], [8]), ([9], [9]), ([6, 10], [6, 10]), ([0, 1, 0, 1, 2, 3, 4, 5, 6, 7, 8, 9, 10, 11], [0, 1]), ([12, 0, 1, 2, 3, 4, 5, 6, 7, 8, 9, 10, 11], [12]), ([13, 11, 11, 0, 1, 2, 3, 4, 5, 6, 7, 8, 9, 10, 11], [11, 13])])
def impl_deltaOf.B10 : List Nat := [0, 0, 0, 0, 12, 28, 60, 0, 128, 384, 896, 2044, 4095, 8191, 16383]
theorem impl_deltaOf.tab10 : rtab .any (opsOf Try.f70 10) = impl_deltaOf.T10 := by kernel_rfl
theorem impl_deltaOf.bits10 : waitsOk impl_deltaOf.T10.2 impl_deltaOf.B10 = true := by kernel_rfl
set_option maxHeartbeats 8000000 in
set_option maxRecDepth 100000 in
theorem impl_deltaOf.calls (k : Nat) (A0 : Option Addr) (c0 : Nat) (l0 : List ByteArray) (P1_ : Nat → Prop) (A1 : Option Addr) (c1 : Nat) (l1 : List ByteArray) (r : List (S39)) (w : World) (hr0 : Kd.C Kd.string w A0 l0.length l0) (hc0 : l0.length ≤ c0) (hs1 : Kd.V Kd.string 9 w w.heap.size (fun k_ => P1_ k_) (.slice A1 l1.length c1) l1) (h : impl_deltaOf.f k l0 l1 = some r) :
 Calls Try.prog 70 #[.slice A0 l0.length c0, .slice A1 l1.length c1] w fun e w' => ∃ v0_ : Value, e = .returned (v0_) ∧ Kd.S k39 39 w' w.heap.size (fun k_ => (w.heap.size ≤ k_)) v0_ r ∧ Below w.heap.size w w' := by
 have hu39 := Try.underlying39
 have HR0 := Aside0.mk hr0
 have HC0 := Aside0.mk hc0
 clear hr0 hc0
 have HO1 := Aside0.mk (show Kd.V Kd.string 9 w w.heap.size (fun k_ => (P1_ k_ ∧ k_ < w.heap.size)) (.slice A1 l1.length c1) l1 from Kd.V_bound hs1)
 have HB := Aside0.mk (Below.refl w.heap.size w)
 have H : (impl_deltaOf.l0 k l0 l1 (([] : List (S39)))) = some r := h
 clear h
 obtain ⟨y341, hy341⟩ : ∃ y_ : List (S39), y_ = (([] : List (S39))) := ⟨_, rfl⟩
 replace H : (impl_deltaOf.l0 k l0 l1 y341) = some r := by first | (rw [hy341]; with_reducible exact H) | (have H2_ := (Option.bind_some _ _).symm.trans H; rw [hy341]; with_reducible exact H2_) | (have H2_ := (Option.bind_some _ _).symm.trans H; with_reducible exact H2_) | with_reducible exact H | (rw [hy341]; exact H) | exact H
 have Ny341 := Aside0.mk hy341
 clear hy341
 have H' := Aside0.mk H
 clear H
 go_enter Try.func70, Try.ntmps70
 go_wp2_with (first | ((with_reducible refine gate_dst (N := 9) rfl ?_); refine Kd.S_lit k39 _ 39 ?hg (N := 9) ?hd (xs := ([] : List (S39))) (inner := []) (ok := fun _ => True) (okp := fun _ => True) ?hr ?hp (fun _ hk => hk) trivial (Below.refl _ _) (Nat.le_refl _) (by simp) ?_; (case hd => rfl); (case hg => rfl); (case hr => first | (go_simp; done) | (go_simp; rfl)); (case hp => exact (Reps.none _ _)); intro v342 w3 ho4 hb hg_ hnew_; clear hg_ hnew_; (first | rw [← Ny341.out] at ho4 | (simp only [Int.reduceToNat] at ho4; rw [← Ny341.out] at ho4)); have n0_ := Aside0.mk (Kd.V_elder' (by (with_reducible repeat (first | apply Kd.V_alloc | apply Kd.V_drewN | apply Kd.V_drew)); exact HO1.out) (Kd.S_base ho4) hb); have n1_ := Aside0.mk (Kd.S_lower (Kd.S_newM (M := fun k_ => (w.heap.size ≤ k_)) ho4 (below_size (by repeat (first | (with_reducible first | exact HB.out | apply below_alloc | apply pw_below_drewN | apply below_drew1) | exact HB.out))) (fun k_ h_ => h_)) (below_size (by repeat (first | (with_reducible first | exact HB.out | apply below_alloc | apply pw_below_drewN | apply below_drew1) | exact HB.out)))); have n2_ := Aside0.mk (below_step (by repeat (first | (with_reducible first | exact HB.out | apply below_alloc | apply pw_below_drewN | apply below_drew1) | exact HB.out)) hb); clear HO1; clear HB; have HO1 := n0_; have HO343 := n1_; have HB := n2_; clear n0_ n1_ n2_; clear hb ho4))
 go_loopg [1, 5] k (fun kq v1 v5 w' => ∃ (x1_1 : List ByteArray) (x5_1 : List (S39)), Aside0 (impl_deltaOf.l0 kq l0 x1_1 x5_1 = some r) ∧ Aside0 (kq ≤ k) ∧ Aside0 (Kd.V Kd.string 9 w' w.heap.size (fun k_ => (P1_ k_ ∧ k_ < w.heap.size) ∧ some k_ ≠ (v5 : Value).ownBlock) v1 x1_1) ∧ Aside0 (Kd.S k39 39 w' w.heap.size (fun k_ => (w.heap.size ≤ k_)) v5 x5_1) ∧ Aside0 (Below w.heap.size w w'))
 case atStart => exact ⟨(l1), (y341), H', ⟨Nat.le_refl _⟩, ⟨by (with_reducible repeat (first | apply Kd.V_alloc | apply Kd.V_drewN | apply Kd.V_drew)); exact HO1.out⟩, ⟨by (with_reducible repeat (first | apply Kd.S_alloc | apply Kd.S_drewN | apply Kd.S_drew)); exact Kd.S_mono HO343.out (fun _ hk => hk.1)⟩, ⟨by repeat (first | (with_reducible first | exact HB.out | apply below_alloc | apply pw_below_drewN | apply below_drew1) | exact HB.out)⟩⟩
 case round =>
  clear H'
  try clear c1
  try clear p2
  obtain ⟨x1_1, x5_1, HA, HK1, HO_1, HO_5, HB⟩ := hrel
  cases gk with
  | zero => exact absurd HA.out (by simp [impl_deltaOf.l0])
  | succ k1 =>
   have H := HA.out
   clear HA
   simp only [impl_deltaOf.l0] at H
   by_cases c5 : (x1_1.length : Int) > 0
   · rw [if_pos c5] at H
     have c5b0 : decide (0 < (x1_1.length : Int)) = true := decide_eq_true c5
     have c5b1 : decide (0 < x1_1.length) = true := decide_eq_true (by omega)
     clear c5
     replace H := Option.bind_eq_some_iff.mp H
     obtain ⟨⟨t344, t345⟩, A60, H⟩ := H
     replace H : (if t345 > 0 then (if x5_1.length < 3518437208883 then (if 0 ≤ t345 then (if t345 ≤ (x1_1.length : Int) then (impl_deltaOf.l0 k1 l0 (x1_1.drop (t345 : Int).toNat) (x5_1 ++ [(⟨t344, t345, ([] : List ByteArray)⟩ : S39)])) else (none)) else (none)) else (none)) else (if (wrap64 ((x5_1.length : Int) - 1)) ≥ 0 then (if 0 ≤ (wrap64 ((x5_1.length : Int) - 1)) then (if (wrap64 ((x5_1.length : Int) - 1)) < (x5_1.length : Int) then (if ((rd_T39 x5_1 (wrap64 ((x5_1.length : Int) - 1))).f1) = 0 then (if 0 < (x1_1.length : Int) then (if ((rd_T39 x5_1 (wrap64 ((x5_1.length : Int) - 1))).f2).length < 8796093022208 then (if 1 ≤ (x1_1.length : Int) then (impl_deltaOf.l0 k1 l0 (x1_1.drop 1) (x5_1.set ((wrap64 ((x5_1.length : Int) - 1)) : Int).toNat (⟨(rd_T39 x5_1 (wrap64 ((x5_1.length : Int) - 1))).f0, (rd_T39 x5_1 (wrap64 ((x5_1.length : Int) - 1))).f1, (((rd_T39 x5_1 (wrap64 ((x5_1.length : Int) - 1))).f2) ++ [rdOf ByteArray.empty x1_1 0])⟩ : S39))) else (none)) else (none)) else (none)) else (if 0 < (x1_1.length : Int) then (if x5_1.length < 3518437208883 then (if 1 ≤ (x1_1.length : Int) then (impl_deltaOf.l0 k1 l0 (x1_1.drop 1) (x5_1 ++ [(⟨0, 0, (([rdOf ByteArray.empty x1_1 0] : List ByteArray))⟩ : S39)])) else (none)) else (none)) else (none))) else (none)) else (none)) else (if 0 < (x1_1.length : Int) then (if x5_1.length < 3518437208883 then (if 1 ≤ (x1_1.length : Int) then (impl_deltaOf.l0 k1 l0 (x1_1.drop 1) (x5_1 ++ [(⟨0, 0, (([rdOf ByteArray.empty x1_1 0] : List ByteArray))⟩ : S39)])) else (none)) else (none)) else (none)))) = some r := H
     have A6 := Aside0.mk A60
     clear A60
     by_cases c7 : t345 > 0
     · rw [if_pos c7] at H
       have c7b0 : decide (0 < t345) = true := decide_eq_true c7
       clear c7
       by_cases c8 : x5_1.length < 3518437208883
       · rw [if_pos c8] at H
         have LMc8 := Aside0.mk c8
         clear c8
         obtain ⟨y346, hy346⟩ : ∃ y_ : List (S39), y_ = (x5_1 ++ [(⟨t344, t345, ([] : List ByteArray)⟩ : S39)]) := ⟨_, rfl⟩
         replace H : (if 0 ≤ t345 then (if t345 ≤ (x1_1.length : Int) then (impl_deltaOf.l0 k1 l0 (x1_1.drop (t345 : Int).toNat) y346) else (none)) else (none)) = some r := by first | (rw [hy346]; with_reducible exact H) | (have H2_ := (Option.bind_some _ _).symm.trans H; rw [hy346]; with_reducible exact H2_) | (have H2_ := (Option.bind_some _ _).symm.trans H; with_reducible exact H2_) | with_reducible exact H | (rw [hy346]; exact H) | exact H
         have Ny346 := Aside0.mk hy346
         clear hy346
         by_cases c9 : 0 ≤ t345
         · rw [if_pos c9] at H
           have c9b0 := eq_true c9
           have c9b1 : decide (0 ≤ t345) = true := decide_eq_true c9
           clear c9
           by_cases c10 : t345 ≤ (x1_1.length : Int)
           · rw [if_pos c10] at H
             have c10b0 := eq_true c10
             have c10b1 : decide (t345 ≤ (x1_1.length : Int)) = true := decide_eq_true c10
             clear c10
             obtain ⟨y349, hy349⟩ : ∃ y_ : List ByteArray, y_ = (x1_1.drop (t345 : Int).toNat) := ⟨_, rfl⟩
             replace H : (impl_deltaOf.l0 k1 l0 y349 y346) = some r := by first | (rw [hy349]; with_reducible exact H) | (have H2_ := (Option.bind_some _ _).symm.trans H; rw [hy349]; with_reducible exact H2_) | (have H2_ := (Option.bind_some _ _).symm.trans H; with_reducible exact H2_) | with_reducible exact H | (rw [hy349]; exact H) | exact H
             have Ny349 := Aside0.mk hy349
             clear hy349
             have H' := Aside0.mk H
             clear H
             obtain ⟨Ao11, co11, eo11⟩ := Kd.V_slice HO_1.out
             subst eo11
             go_wp2_with (first | ((with_reducible refine gate_callee (f := 102) rfl ?_); refine goesL_ (some 16) rfl rfl Try.func102 (by kernel_rfl) rfl #[.slice A0 l0.length c0, .slice Ao11 x1_1.length co11] rfl (by (try simp only [List.map_toArray, List.map_cons, List.map_nil]); first | done | rfl | (simp only [List.length_drop, List.length_take]; rfl)) ?_; (with_reducible refine (impl_longestRun.calls k1 _ _ l0 _ _ x1_1 t344 t345 _ ?side1 ?side2 ?side3 ?side4 A6.out).mono ?_); (case side1 => repeat (first | exact (Kd.C_below HR0.out HB.out) | (with_reducible refine Kd.C_alloc ?_ _) | (with_reducible refine Kd.C_drewN ?_ _) | (with_reducible refine Kd.C_drew ?_))); (case side2 => exact HC0.out); (case side3 => repeat (first | exact (Kd.V_reads' HO_1.out).2.2 | (with_reducible refine Kd.C_alloc ?_ _) | (with_reducible refine Kd.C_drewN ?_ _) | (with_reducible refine Kd.C_drew ?_))); (case side4 => exact (Kd.V_reads' HO_1.out).2.1); rintro e w' ⟨rfl, ⟨nd, rfl⟩⟩; refine ⟨_, rfl, ?_⟩; obtain ⟨Ao12, co12, eo12⟩ := Kd.S_slice HO_5.out; subst eo12) | ((with_reducible refine gate_builtin (b := .append) (xs := #[.tmp 33, .tmp 37]) rfl ?_); at_builtin; refine Kd.S_append k39 (w0 := w) w.heap.size rfl (.tmp 33) (.tmp 37) 25 39 (.agg #[(.int .i64 0), (.int .i64 0), (.slice none 0 0)]) 40 rfl Try.underlying25 info39 rfl (by decide) (by omega) (.slice Ao12 x5_1.length co12) x5_1 (⟨t344, t345, ([] : List ByteArray)⟩ : S39) [.int .i64 t344, .int .i64 t345, .slice none 0 0] (fun k_ => (w.heap.size ≤ k_)) (fun _ => False) rfl rfl ?aP (fun k_ hk_ => hk_.elim) ?aF ?aO ?aB ?aS ?aL ?_; (case aP => exact k39_mkM _ _ _ (⟨t344, t345, ([] : List ByteArray)⟩ : S39) (Kd.R_nil _ _ _ _ _)); (case aB => exact (by repeat (first | (with_reducible first | exact HB.out | apply below_alloc | apply pw_below_drewN | apply below_drew1) | exact HB.out))); (case aF => exact (fun k_ hk => (Nat.le_trans (below_size (by repeat (first | (with_reducible first | exact HB.out | apply below_alloc | apply pw_below_drewN | apply below_drew1) | exact HB.out))) hk))); (case aO => exact (by (with_reducible repeat (first | apply Kd.S_alloc | apply Kd.S_drewN | apply Kd.S_drew)); exact Kd.S_mono HO_5.out (fun k_ hk => ⟨hk, fun e_ => e_⟩))); (case aS => exact (below_size (by repeat (first | (with_reducible first | exact HB.out | apply below_alloc | apply pw_below_drewN | apply below_drew1) | exact HB.out)))); (case aL => have := LMc8.out; omega); intro v347 w13 ho hb hg hat; rw [← Ny346.out] at ho; have n0_ := Aside0.mk (Kd.V_afterv (ok := (fun k_ => (P1_ k_ ∧ k_ < w.heap.size))) (by (with_reducible repeat (first | apply Kd.V_alloc | apply Kd.V_drewN | apply Kd.V_drew)); exact HO_1.out) hg hat); have n1_ := Aside0.mk (hb); have n2_ := Aside0.mk (ho); clear HO_1; clear HB; clear HO_5; have HO_1 := n0_; have HB := n1_; have HO348 := n2_; clear n0_ n1_ n2_; clear ho hb hg hat; have q14 : (t345 : Int) ≤ ((x1_1.length : Int) : Int) := of_decide_eq_true (by assumption); obtain ⟨i014, hi014, _, hsz14, _⟩ := info_parts info9; have hroom14 : x1_1.length ≤ co11 := (Kd.V_reads' HO_1.out).2.1; have hC14 : Kd.F Kd.string _ _ Ao11 x1_1.length x1_1 := (Kd.V_at (base := w.heap.size) HO_1.out).2.2; have q014 : (0 : Int) ≤ (t345 : Int) := of_decide_eq_true (by assumption); have hcut14 := cut_from (P := Try.prog) 30 9 .i64 Try.underlying30 hi014 1 hsz14 Ao11 x1_1.length co11 t345 q014 q14; have hr14 := Kd.F_cut (m := (t345 : Int).toNat) (c := co11) hC14 (by omega) hroom14; obtain ⟨A14, hA14⟩ : ∃ A1, A1 = (if co11 = (t345 : Int).toNat then Ao11 else (Ao11 : Option Addr).map (·.add ((t345 : Int).toNat * 1))) := ⟨_, rfl⟩; obtain ⟨c14, hc14⟩ : ∃ c1, c1 = co11 - (t345 : Int).toNat := ⟨_, rfl⟩; have hy14 : y349.length = x1_1.length - (t345 : Int).toNat := (by rw [Ny349.out, List.length_drop] <;> omega); rw [show (x1_1).drop (t345 : Int).toNat = y349 from Ny349.out.symm] at hr14; replace hr14 : Kd.F Kd.string _ _ A14 y349.length y349 := (by rw [hA14]; exact hr14); rw [← hy14, ← hA14, ← hc14] at hcut14; have HO353 := Aside0.mk (show Kd.V Kd.string 9 _ w.heap.size _ (.slice A14 y349.length c14) y349 from Kd.V_mk (by rw [hy14, hc14]; exact Nat.sub_le_sub_right hroom14 _) hr14); have HC353 := Aside0.mk (show y349.length ≤ c14 from by rw [hy14, hc14]; exact Nat.sub_le_sub_right hroom14 _); clear hr14 hC14 hroom14 hi014 hsz14 hc14; have KY14 := Aside0.mk hy14; have KA14 := Aside0.mk hA14; clear hy14 hA14; replace q14 := eq_true q14))
             go_roundg k1
             case measure => have := HK1.out; omega
             case rel => exact ⟨(y349), (y346), H', ⟨by have := HK1.out; omega⟩, ⟨by (with_reducible repeat (first | apply Kd.V_alloc | apply Kd.V_drewN | apply Kd.V_drew)); exact HO353.out⟩, ⟨by (with_reducible repeat (first | apply Kd.S_alloc | apply Kd.S_drewN | apply Kd.S_drew)); exact HO348.out⟩, ⟨by repeat (first | (with_reducible first | exact HB.out | apply below_alloc | apply pw_below_drewN | apply below_drew1) | exact HB.out)⟩⟩
           · rw [if_neg c10] at H
             exact absurd H (by simp)
         · rw [if_neg c9] at H
           exact absurd H (by simp)
       · rw [if_neg c8] at H
         exact absurd H (by simp)
     · rw [if_neg c7] at H
       have c7b0 : decide (0 < t345) = false := decide_eq_false c7
       clear c7
       by_cases c15 : (wrap64 ((x5_1.length : Int) - 1)) ≥ 0
       · rw [if_pos c15] at H
         have c15b0 : decide (0 ≤ (wrap64 ((x5_1.length : Int) - 1))) = true := decide_eq_true c15
         clear c15
         obtain ⟨ji16, hji16⟩ : ∃ j_ : Int, (wrap64 ((x5_1.length : Int) - 1)) = j_ := ⟨_, rfl⟩
         replace H : (if 0 ≤ (ji16) then (if (ji16) < (x5_1.length : Int) then (if ((rd_T39 x5_1 (ji16)).f1) = 0 then (if 0 < (x1_1.length : Int) then (if ((rd_T39 x5_1 (ji16)).f2).length < 8796093022208 then (if 1 ≤ (x1_1.length : Int) then (impl_deltaOf.l0 k1 l0 (x1_1.drop 1) (x5_1.set ((ji16) : Int).toNat (⟨(rd_T39 x5_1 (ji16)).f0, (rd_T39 x5_1 (ji16)).f1, (((rd_T39 x5_1 (ji16)).f2) ++ [rdOf ByteArray.empty x1_1 0])⟩ : S39))) else (none)) else (none)) else (none)) else (if 0 < (x1_1.length : Int) then (if x5_1.length < 3518437208883 then (if 1 ≤ (x1_1.length : Int) then (impl_deltaOf.l0 k1 l0 (x1_1.drop 1) (x5_1 ++ [(⟨0, 0, (([rdOf ByteArray.empty x1_1 0] : List ByteArray))⟩ : S39)])) else (none)) else (none)) else (none))) else (none)) else (none)) = some r := by first | (rw [hji16] at H; exact H) | (simp only [hji16] at H ⊢; exact H)
         (try rw [hji16] at c15b0)
         (try rw [hji16] at A6)
         have hji16w : (IntKind.i64.wrap ((x5_1.length : Int) - 1)) = ji16 := (i64_w _).trans hji16
         by_cases c17 : 0 ≤ (ji16)
         · rw [if_pos c17] at H
           have c17b0 : decide (0 ≤ (ji16)) = true := decide_eq_true c17
           clear c17
           by_cases c18 : (ji16) < (x5_1.length : Int)
           · rw [if_pos c18] at H
             have c18b0 : decide ((ji16) < (x5_1.length : Int)) = true := decide_eq_true c18
             clear c18
             by_cases c19 : ((rd_T39 x5_1 (ji16)).f1) = 0
             · rw [if_pos c19] at H
               have c19b0 : (((rd_T39 x5_1 (ji16)).f1) == 0) = true := beq_iff_eq.mpr c19
               have c19b1 : (((rd_T39 x5_1 (ji16)).f1) != 0) = false := bne_eq_false_iff_eq.mpr c19
               clear c19
               by_cases c20 : 0 < (x1_1.length : Int)
               · rw [if_pos c20] at H
                 have c20b0 : decide (0 < (x1_1.length : Int)) = true := decide_eq_true c20
                 have c20b1 : decide (0 < x1_1.length) = true := decide_eq_true (by omega)
                 clear c20
                 by_cases c21 : ((rd_T39 x5_1 (ji16)).f2).length < 8796093022208
                 · rw [if_pos c21] at H
                   have LMc21 := Aside0.mk c21
                   clear c21
                   obtain ⟨y357, hy357⟩ : ∃ y_ : List ByteArray, y_ = (((rd_T39 x5_1 (ji16)).f2) ++ [rdOf ByteArray.empty x1_1 0]) := ⟨_, rfl⟩
                   replace H : (if 1 ≤ (x1_1.length : Int) then (impl_deltaOf.l0 k1 l0 (x1_1.drop 1) (x5_1.set ((ji16) : Int).toNat (⟨(rd_T39 x5_1 (ji16)).f0, (rd_T39 x5_1 (ji16)).f1, y357⟩ : S39))) else (none)) = some r := by first | (rw [hy357]; with_reducible exact H) | (have H2_ := (Option.bind_some _ _).symm.trans H; rw [hy357]; with_reducible exact H2_) | (have H2_ := (Option.bind_some _ _).symm.trans H; with_reducible exact H2_) | with_reducible exact H | (rw [hy357]; exact H) | exact H
                   have Ny357 := Aside0.mk hy357
                   clear hy357
                   obtain ⟨y360, hy360⟩ : ∃ y_ : List (S39), y_ = (x5_1.set ((ji16) : Int).toNat (⟨(rd_T39 x5_1 (ji16)).f0, (rd_T39 x5_1 (ji16)).f1, y357⟩ : S39)) := ⟨_, rfl⟩
                   replace H : (if 1 ≤ (x1_1.length : Int) then (impl_deltaOf.l0 k1 l0 (x1_1.drop 1) y360) else (none)) = some r := by first | (rw [hy360]; with_reducible exact H) | (have H2_ := (Option.bind_some _ _).symm.trans H; rw [hy360]; with_reducible exact H2_) | (have H2_ := (Option.bind_some _ _).symm.trans H; with_reducible exact H2_) | with_reducible exact H | (rw [hy360]; exact H) | exact H
                   have Ny360 := Aside0.mk hy360
                   clear hy360
                   by_cases c23 : 1 ≤ (x1_1.length : Int)
                   · rw [if_pos c23] at H
                     have c23b0 := eq_true c23
                     have c23b1 : decide (1 ≤ (x1_1.length : Int)) = true := decide_eq_true c23
                     clear c23
                     obtain ⟨y361, hy361⟩ : ∃ y_ : List ByteArray, y_ = (x1_1.drop 1) := ⟨_, rfl⟩
                     replace H : (impl_deltaOf.l0 k1 l0 y361 y360) = some r := by first | (rw [hy361]; with_reducible exact H) | (have H2_ := (Option.bind_some _ _).symm.trans H; rw [hy361]; with_reducible exact H2_) | (have H2_ := (Option.bind_some _ _).symm.trans H; with_reducible exact H2_) | with_reducible exact H | (rw [hy361]; exact H) | exact H
                     have Ny361 := Aside0.mk hy361
                     clear hy361
                     have H' := Aside0.mk H
                     clear H
                     obtain ⟨Ao24, co24, eo24⟩ := Kd.V_slice HO_1.out
                     subst eo24
                     try go_wp2_with (first | ((with_reducible refine gate_callee (f := 102) rfl ?_); refine goesL_ (some 16) rfl rfl Try.func102 (by kernel_rfl) rfl #[.slice A0 l0.length c0, .slice Ao24 x1_1.length co24] rfl (by (try simp only [List.map_toArray, List.map_cons, List.map_nil]); first | done | rfl | (simp only [List.length_drop, List.length_take]; rfl)) ?_; (with_reducible refine (impl_longestRun.calls k1 _ _ l0 _ _ x1_1 t344 t345 _ ?side1 ?side2 ?side3 ?side4 A6.out).mono ?_); (case side1 => repeat (first | exact (Kd.C_below HR0.out HB.out) | (with_reducible refine Kd.C_alloc ?_ _) | (with_reducible refine Kd.C_drewN ?_ _) | (with_reducible refine Kd.C_drew ?_))); (case side2 => exact HC0.out); (case side3 => repeat (first | exact (Kd.V_reads' HO_1.out).2.2 | (with_reducible refine Kd.C_alloc ?_ _) | (with_reducible refine Kd.C_drewN ?_ _) | (with_reducible refine Kd.C_drew ?_))); (case side4 => exact (Kd.V_reads' HO_1.out).2.1); rintro e w' ⟨rfl, ⟨nd, rfl⟩⟩; refine ⟨_, rfl, ?_⟩; (try (rw [drewN_self wr]; generalize hq_ : World.drewN wr _ = wr; have n0_ : Aside0 (Kd.V Kd.string 9 wr w.heap.size (fun k_ => (P1_ k_ ∧ k_ < w.heap.size) ∧ some k_ ≠ (u5 : Value).ownBlock) (.slice Ao24 x1_1.length co24) x1_1) := ⟨by rw [← hq_]; exact (by (with_reducible repeat (first | apply Kd.V_alloc | apply Kd.V_drewN | apply Kd.V_drew)); exact HO_1.out)⟩; have n1_ : Aside0 (Kd.S k39 39 wr w.heap.size (fun k_ => (w.heap.size ≤ k_)) u5 x5_1) := ⟨by rw [← hq_]; exact (by (with_reducible repeat (first | apply Kd.S_alloc | apply Kd.S_drewN | apply Kd.S_drew)); exact HO_5.out)⟩; have n2_ : Aside0 (Below w.heap.size w wr) := ⟨by rw [← hq_]; exact (by repeat (first | (with_reducible first | exact HB.out | apply below_alloc | apply pw_below_drewN | apply below_drew1) | exact HB.out))⟩; clear HO_1 HO_5 HB hq_; have HO_1 := n0_; have HO_5 := n1_; have HB := n2_; clear n0_ n1_ n2_)); obtain ⟨Ao25, co25, eo25⟩ := Kd.S_slice HO_5.out; subst eo25; have p354 : 0 ≤ ((ji16) : Int) := of_decide_eq_true (by assumption); have q354 : (ji16) < (x5_1.length : Int) := of_decide_eq_true (by assumption); obtain ⟨ad354, A354_2, c354_2, e354, hx354_0, hx354_1, hx354_2, hl354_2, hi354_2⟩ := at_T39 (Kd.S_reads' HO_5.out).2.2 (ji16) p354 q354; cases e354; obtain ⟨ce354, hce354, hMe354, hcc354⟩ := Kd.S_get HO_5.out z39 (ji16) p354 (by first | exact q354 | exact of_decide_eq_true (by assumption) | (have e_ := (Kd.S_reads' HO_5.out).1; omega)); obtain ⟨ve354_2, rfl, ge354_2⟩ := k39_openM hMe354; have hv354_2 := hcc354 2 _ rfl; rw [add_field _ _ 2 (by omega)] at hv354_2; replace hv354_2 := Option.some.inj (hv354_2.symm.trans hx354_2); rw [hv354_2] at ge354_2; have HL354_2 := Aside0.mk (show Kd.R Kd.string 9 _ _ _ _ ((rd_T39 x5_1 (ji16)).f2) from ge354_2); clear hv354_2 ge354_2; have HX354_2 := Aside0.mk hx354_2; clear hcc354 hce354; have HR354_2 := Aside0.mk hi354_2; have HC354_2 := Aside0.mk hl354_2; clear hi354_2 hl354_2; replace p354 := eq_true p354; replace q354 := eq_true q354))
                     have n0_ := Aside0.mk (Kd.V_drew HO_1.out)
                     have n1_ := Aside0.mk (Kd.S_drew HO_5.out)
                     have n2_ := Aside0.mk (Kd.R_drew HL354_2.out)
                     have n3_ := Aside0.mk (Kd.C_drew HR354_2.out)
                     have n4_ := Aside0.mk (below_drew1 HB.out)
                     clear HO_1
                     clear HO_5
                     clear HL354_2
                     clear HR354_2
                     clear HB
                     have HO_1 := n0_
                     have HO_5 := n1_
                     have HL354_2 := n2_
                     have HR354_2 := n3_
                     have HB := n4_
                     clear n0_ n1_ n2_ n3_ n4_
                     have p355 : 0 ≤ ((ji16) : Int) := of_decide_eq_true (by assumption)
                     have q355 : (ji16) < (x5_1.length : Int) := of_decide_eq_true (by assumption)
                     obtain ⟨ad355, A355_2, c355_2, e355, hx355_0, hx355_1, hx355_2, hl355_2, hi355_2⟩ := at_T39 (Kd.S_reads' HO_5.out).2.2 (ji16) p355 q355
                     obtain rfl : ad354 = ad355 := (by injection e355)
                     obtain ⟨ce355, hce355, hMe355, hcc355⟩ := Kd.S_get HO_5.out z39 (ji16) p355 (by first | exact q355 | exact of_decide_eq_true (by assumption) | (have e_ := (Kd.S_reads' HO_5.out).1; omega))
                     obtain ⟨ve355_2, rfl, ge355_2⟩ := k39_openM hMe355
                     have hv355_2 := hcc355 2 _ rfl
                     rw [add_field _ _ 2 (by omega)] at hv355_2
                     replace hv355_2 := Option.some.inj (hv355_2.symm.trans hx355_2)
                     rw [hv355_2] at ge355_2
                     have HL355_2 := Aside0.mk (show Kd.R Kd.string 9 _ _ _ _ ((rd_T39 x5_1 (ji16)).f2) from ge355_2)
                     clear hv355_2 ge355_2
                     have HX355_2 := Aside0.mk hx355_2
                     clear hcc355 hce355
                     have HR355_2 := Aside0.mk hi355_2
                     have HC355_2 := Aside0.mk hl355_2
                     clear hi355_2 hl355_2
                     replace p355 := eq_true p355
                     replace q355 := eq_true q355
                     have p356 : 0 ≤ (0 : Int) := (by omega)
                     have q356 : 0 < (x1_1.length : Int) := of_decide_eq_true (by assumption)
                     obtain ⟨ad356, e356, hx356_0⟩ := Kd.at_string (Kd.V_reads' HO_1.out).2.2 0 p356 q356
                     cases e356
                     have qi356 : (0 < x1_1.length) = True := eq_true (by omega)
                     (try rw [show ((0 : Int)).toNat = 0 from rfl] at hx356_0)
                     (try rw [Addr.add_zero'] at hx356_0)
                     replace p356 := eq_true p356
                     replace q356 := eq_true q356
                     obtain ⟨go27, co27, eo27, gb27, gl27, cl27, HG27⟩ := Kd.S_form HO_5.out (by have h_ : ((ji16) : Int) < ((x5_1.length : Int) : Int) := of_decide_eq_true (by assumption); have h2_ : 0 ≤ ((ji16) : Int) := (of_decide_eq_true (by assumption)); omega)
                     (first | cases eo27 | (injection eo27 with ea_ en_ ec_; (first | subst ea_ | (injection ea_ with ea_; subst ea_)); subst ec_; clear en_))
                     have GB27 := Aside0.mk gb27
                     have GG27 := Aside0.mk HG27
                     clear gb27 gl27 HG27
                     (first | simp only [add_plain] at hx354_0 | skip)
                     (first | simp only [add_plain] at hx354_1 | skip)
                     (first | simp only [add_plain] at hx354_2 | skip)
                     (first | simp only [add_plain] at hx355_0 | skip)
                     (first | simp only [add_plain] at hx355_1 | skip)
                     (first | simp only [add_plain] at hx355_2 | skip)
                     obtain ⟨oki27, ce27, hcl27, hM27, hcc27, _, _, hH27⟩ := Kd.S_elem HO_5.out z39 ((ji16) : Int) (of_decide_eq_true (by assumption)) (by have h_ : ((ji16) : Int) < ((x5_1.length : Int) : Int) := of_decide_eq_true (by assumption); first | exact h_ | (have e_ := (Kd.S_reads' HO_5.out).1; omega) | simpa using h_)
                     obtain ⟨ve27_2, rfl, ge27_2⟩ := k39_openM hM27
                     have hv27 := hcc27 2 _ rfl
                     have hX27 := HX355_2.out
                     (try simp only [add_plain] at hX27)
                     (try simp only [Nat.add_zero] at hv27)
                     replace hv27 := Option.some.inj (hv27.symm.trans hX27)
                     subst hv27
                     clear hX27 hcc27 hcl27
                     have UU27 := Aside0.mk (show Kd.R Kd.string 9 _ w.heap.size oki27 (.slice A355_2 ((rd_T39 x5_1 (ji16)).f2).length c355_2) ((rd_T39 x5_1 (ji16)).f2) from ge27_2)
                     have HH27 := Aside0.mk hH27
                     have HN27 := Aside0.mk (Kd.S_reads' HO_5.out).1
                     clear hH27 ge27_2
                     refine start_ (n := 15) (S := fun w' => w'.cell? ((⟨go27, (((ji16)).toNat * 3), none⟩ : Addr)) = some (.int .i64 ((rd_T39 x5_1 (ji16)).f0)) ∧ w'.cell? ⟨((⟨go27, (((ji16)).toNat * 3), none⟩ : Addr)).block, ((⟨go27, (((ji16)).toNat * 3), none⟩ : Addr)).off + 1, none⟩ = some (.int .i64 ((rd_T39 x5_1 (ji16)).f1)) ∧ w'.cell? ⟨((⟨go27, (((ji16)).toNat * 3), none⟩ : Addr)).block, ((⟨go27, (((ji16)).toNat * 3), none⟩ : Addr)).off + 2, none⟩ = some (.slice A355_2 ((rd_T39 x5_1 (ji16)).f2).length c355_2) ∧ w'.cell? ad356 = some (.string (rdOf ByteArray.empty x1_1 0))) (ds := [11, 14]) #[f_, f_, f_, f_, f_, f_, f_, f_, f_, f_, f_, f_, f_, f_, f_] (by kernel_rfl) rfl rfl ⟨hx355_0, hx355_1, hx355_2, hx356_0⟩ (fun hHeld => ?_); refine with_tabW impl_deltaOf.tab10 impl_deltaOf.bits10 (fun HT_ HW_ => ?_)
                     generalize wr.drew = w26 at HO_1 HO_5 HL354_2 HR354_2 HB GG27 HH27 HL355_2 HR355_2 HX355_2 UU27 hx354_0 hx354_1 hx354_2 hx355_0 hx355_1 hx355_2 hx356_0 hHeld ⊢
                     refine pure_ (i := 0) (N := some 53) (v := ?_) (a' := ?_) #[t_, f_, f_, f_, f_, f_, f_, f_, f_, f_, f_, f_, f_, f_, f_] rfl rfl (any_of HT_.out (by kernel_rfl)) (fun _ _ _ h => h) (Or.inl ⟨by rfl, ?_⟩) ?_ ?_
                     rotate_left
                     · intro w'
                       go_simp
                       with_reducible rfl
                     rotate_left
                     · simp only [Act.put, List.setIfInBounds_toArray, List.set_cons_zero, List.set_cons_succ, i64_w, i32_w]
                       rfl
                     refine pure_ (i := 1) (N := some 54) (v := ?_) (a' := ?_) #[t_, t_, f_, f_, f_, f_, f_, f_, f_, f_, f_, f_, f_, f_, f_] rfl rfl (any_of HT_.out (by kernel_rfl)) (fun _ _ _ h => h) (Or.inl ⟨by rfl, ?_⟩) ?_ ?_
                     rotate_left
                     · intro w'
                       go_simp
                       with_reducible rfl
                     rotate_left
                     · simp only [Act.put, List.setIfInBounds_toArray, List.set_cons_zero, List.set_cons_succ, i64_w, i32_w]
                       rfl
                     refine pure_ (i := 2) (N := some 55) (v := ?_) (a' := ?_) #[t_, t_, t_, f_, f_, f_, f_, f_, f_, f_, f_, f_, f_, f_, f_] rfl rfl (any_of HT_.out (by kernel_rfl)) (fun _ _ _ h => h) (Or.inl ⟨by rfl, ?_⟩) ?_ ?_
                     rotate_left
                     · intro w'
                       go_simp
                       with_reducible rfl
                     rotate_left
                     · simp only [Act.put, List.setIfInBounds_toArray, List.set_cons_zero, List.set_cons_succ, i64_w, i32_w]
                       rfl
                     refine pure_ (i := 3) (N := some 56) (v := ?_) (a' := ?_) #[t_, t_, t_, t_, f_, f_, f_, f_, f_, f_, f_, f_, f_, f_, f_] rfl rfl (any_of HT_.out (by kernel_rfl)) (fun _ _ _ h => h) (Or.inl ⟨by rfl, ?_⟩) ?_ ?_
                     rotate_left
                     · intro w'
                       go_simp
                       with_reducible rfl
                     rotate_left
                     · simp only [Act.put, List.setIfInBounds_toArray, List.set_cons_zero, List.set_cons_succ, i64_w, i32_w]
                       rfl
                     refine pure_ (i := 4) (N := some 57) (v := ?_) (a' := ?_) #[t_, t_, t_, t_, t_, f_, f_, f_, f_, f_, f_, f_, f_, f_, f_] rfl rfl (any_of HT_.out (by kernel_rfl)) (fun _ _ _ h => h) (Or.inl ⟨by rfl, ?_⟩) ?_ ?_
                     rotate_left
                     · intro w'
                       go_simp
                       with_reducible rfl
                     rotate_left
                     · simp only [Act.put, List.setIfInBounds_toArray, List.set_cons_zero, List.set_cons_succ, i64_w, i32_w]
                       rfl
                     refine pure_ (i := 5) (N := some 58) (v := ?_) (a' := ?_) #[t_, t_, t_, t_, t_, t_, f_, f_, f_, f_, f_, f_, f_, f_, f_] rfl rfl (any_of HT_.out (by kernel_rfl)) (fun _ _ _ h => h) (Or.inl ⟨by rfl, ?_⟩) ?_ ?_
                     rotate_left
                     · intro w'
                       go_simp
                       with_reducible rfl
                     rotate_left
                     · simp only [Act.put, List.setIfInBounds_toArray, List.set_cons_zero, List.set_cons_succ, i64_w, i32_w]
                       rfl
                     refine pure_ (i := 7) (N := some 60) (v := ?_) (a' := ?_) #[t_, t_, t_, t_, t_, t_, f_, t_, f_, f_, f_, f_, f_, f_, f_] rfl rfl (any_of HT_.out (by kernel_rfl)) (fun _ _ _ h => h) (Or.inl ⟨by rfl, ?_⟩) ?_ ?_
                     rotate_left
                     · intro w'
                       go_simp
                       with_reducible rfl
                     rotate_left
                     · simp only [Act.put, List.setIfInBounds_toArray, List.set_cons_zero, List.set_cons_succ, i64_w, i32_w]
                       rfl
                     refine pure_ (i := 8) (N := some 61) (v := ?_) (a' := ?_) #[t_, t_, t_, t_, t_, t_, f_, t_, t_, f_, f_, f_, f_, f_, f_] rfl rfl (any_of HT_.out (by kernel_rfl)) (fun _ _ _ h => h) (Or.inl ⟨by rfl, ?_⟩) ?_ ?_
                     rotate_left
                     · intro w'
                       go_simp
                       with_reducible rfl
                     rotate_left
                     · simp only [Act.put, List.setIfInBounds_toArray, List.set_cons_zero, List.set_cons_succ, i64_w, i32_w]
                       rfl
                     refine take_ (i := 6) (N := some 59) (v := ?_) (a' := ?_) #[t_, t_, t_, t_, t_, t_, t_, t_, t_, f_, f_, f_, f_, f_, f_] rfl rfl (take_ofW HT_.out HW_.out (by kernel_rfl)) (fun _ _ _ h => h) (Or.inl ⟨by rfl, ?_⟩) hHeld ?_ ?_
                     rotate_left
                     · rintro w' ⟨s0, s1, s2, s3⟩
                       go_simp
                       with_reducible rfl
                     rotate_left
                     · simp only [Act.put, List.setIfInBounds_toArray, List.set_cons_zero, List.set_cons_succ, i64_w, i32_w]
                       rfl
                     refine take_ (i := 9) (N := some 62) (v := ?_) (a' := ?_) #[t_, t_, t_, t_, t_, t_, t_, t_, t_, t_, f_, f_, f_, f_, f_] rfl rfl (take_ofW HT_.out HW_.out (by kernel_rfl)) (fun _ _ _ h => h) (Or.inl ⟨by rfl, ?_⟩) hHeld ?_ ?_
                     rotate_left
                     · rintro w' ⟨s0, s1, s2, s3⟩
                       go_simp
                       with_reducible rfl
                     rotate_left
                     · simp only [Act.put, List.setIfInBounds_toArray, List.set_cons_zero, List.set_cons_succ, i64_w, i32_w]
                       rfl
                     refine one_ (i := 10) (N := some 63) #[t_, t_, t_, t_, t_, t_, t_, t_, t_, t_, t_, f_, f_, f_, f_] rfl rfl (one_of HT_.out (by kernel_rfl)) (by decide) (fun K hK => ?_)
                     refine value_ (w1 := ?_) (v := ?_) (by rfl) rfl ?_ ?_
                     rotate_left 2
                     · go_simp
                       constructor
                       · rfl
                       · rfl
                     refine hK.out _ _ ⟨(World.cell?_alloc_lt _ _ _ (World.block_lt_of_cell? _ _ (hHeld.1))).trans (hHeld.1), (World.cell?_alloc_lt _ _ _ (World.block_lt_of_cell? _ _ (hHeld.2.1))).trans (hHeld.2.1), (World.cell?_alloc_lt _ _ _ (World.block_lt_of_cell? _ _ (hHeld.2.2.1))).trans (hHeld.2.2.1), (World.cell?_alloc_lt _ _ _ (World.block_lt_of_cell? _ _ (hHeld.2.2.2))).trans (hHeld.2.2.2)⟩ (fun hHeld => ?_)
                     clear hK K
                     refine norm_ (a' := ?_) ?_ ?_
                     rotate_left
                     · show Act.put _ (some 63) _ = _
                       simp only [Act.put, List.setIfInBounds_toArray, List.set_cons_zero, List.set_cons_succ, i64_w, i32_w]
                       rfl
                     refine last_ (i := 11) (N := some 64) #[t_, t_, t_, t_, t_, t_, t_, t_, t_, t_, t_, t_, f_, f_, f_] rfl rfl (one_of HT_.out (by kernel_rfl)) (by decide) (fun K hK => ?_)
                     refine Kd.R_append_step Kd.string (w0 := w) w.heap.size (by rfl) (.tmp 59) (.tmp 63) 30 9 (.string ⟨#[]⟩) 16 rfl Try.underlying30 info9 rfl (by decide) (by omega) (.slice A355_2 ((rd_T39 x5_1 (ji16)).f2).length c355_2) ((rd_T39 x5_1 (ji16)).f2) (rdOf ByteArray.empty x1_1 0) [.string (rdOf ByteArray.empty x1_1 0)] (fun k_ => oki27 k_ ∨ ((fun k_ => (w.heap.size ≤ k_))) k_ ∧ w26.heap.size ≤ k_) (fun _ => False) rfl rfl ?aP (fun _ hk => hk.elim) ?aF ?aO ?aB ?aS ?aL ?_
                     (case aP => exact rfl)
                     (case aB => exact (by repeat (first | (with_reducible first | exact HB.out | apply below_alloc | apply pw_below_drewN | apply below_drew1) | exact HB.out)))
                     (case aF => exact (fun k_ hk => .inr ⟨Nat.le_trans (below_size HB.out) hk, hk⟩))
                     (case aO => exact (by (with_reducible repeat (first | apply Kd.R_alloc | apply Kd.R_drewN | apply Kd.R_drew)); exact Kd.R_mono UU27.out (fun _ hk => .inl hk)))
                     (case aS => exact (below_size (by repeat (first | (with_reducible first | exact HB.out | apply below_alloc | apply pw_below_drewN | apply below_drew1) | exact HB.out))))
                     (case aL => have := LMc21.out; omega)
                     intro v358 w28 ho hb hg hat
                     rw [← Ny357.out] at ho
                     have n0_ := Aside0.mk (Kd.V_grown (by (with_reducible repeat (first | apply Kd.V_alloc | apply Kd.V_drewN | apply Kd.V_drew)); exact HO_1.out) hg (fun k_ hk_ e_ => (by have h1_ := Kd.R_base UU27.out k_ e_.symm; have h2_ := hk_.1.2; omega)))
                     have n1_ := Aside0.mk (hb)
                     have n2_ := Aside0.mk (Kd.H_grown (Kd.H_widen (by repeat (first | exact HH27.out | refine Kd.H_alloc ?_ _ | refine Kd.H_drewN ?_ _ | refine Kd.H_drew ?_))) hg (fun k_ e_ => .inl (UU27.out.1 k_ e_)))
                     have n3_ := Aside0.mk (ho)
                     clear HO_1
                     clear HB
                     clear HH27
                     clear HO_5
                     clear UU27
                     clear HL354_2
                     clear HL355_2
                     have HO_1 := n0_
                     have HB := n1_
                     have HH27 := n2_
                     have HO359 := n3_
                     clear n0_ n1_ n2_ n3_
                     clear ho hb hg hat
                     have p22 : 0 ≤ ((ji16) : Int) := of_decide_eq_true (by assumption)
                     have q22 : ((ji16) : Int) < ((x5_1.length : Int) : Int) := of_decide_eq_true (by assumption)
                     replace p22 := eq_true p22
                     replace q22 := eq_true q22
                     obtain ⟨Ao31, co31, eo31⟩ := Kd.R_slice HO359.out
                     (first | subst eo31 | (injection eo31 with f1_ f2_ f3_; have f4_ := f1_.symm; have f5_ := f3_.symm; clear f1_ f2_ f3_; subst f4_; subst f5_))
                     obtain ⟨_, _, hraw29, _, _, hcc29, _⟩ := Kd.H_raw HH27.out (of_decide_eq_true (by assumption)) (by have h_ : ((ji16) : Int) < ((x5_1.length : Int) : Int) := of_decide_eq_true (by assumption); first | exact h_ | (have e_ := (HN27.out); omega) | simpa using h_)
                     obtain ⟨_, hfr29⟩ := Kd.H_at HH27.out (of_decide_eq_true (by assumption)) (by have h_ : ((ji16) : Int) < ((x5_1.length : Int) : Int) := of_decide_eq_true (by assumption); first | exact h_ | (have e_ := (HN27.out); omega) | simpa using h_)
                     have hx29_0 := hcc29 2 _ rfl
                     have hf29_0 := hfr29 2
                     (try rw [show (k39).sz = 3 from rfl] at hx29_0)
                     (try rw [show (k39).sz = 3 from rfl] at hf29_0)
                     have HP29 := Kd.S_seg0 HH27.out (of_decide_eq_true (by assumption)) (by have h_ : ((ji16) : Int) < ((x5_1.length : Int) : Int) := of_decide_eq_true (by assumption); first | exact h_ | (have e_ := (HN27.out); omega) | simpa using h_) (seg := [.slice Ao31 y357.length co31]) (j := 2) (show 3 ≤ 3 from by decide) (x' := (⟨(rd_T39 x5_1 (ji16)).f0, (rd_T39 x5_1 (ji16)).f1, y357⟩ : S39)) (k39_mkM _ _ _ (⟨(rd_T39 x5_1 (ji16)).f0, (rd_T39 x5_1 (ji16)).f1, y357⟩ : S39) HO359.out) (fun _ hk => hk)
                     clear hcc29 hfr29
                     have HS29 := HP29.1
                     rw [← Ny360.out] at HS29
                     have HQ29 := Aside0.mk HS29
                     obtain ⟨_, hgg29⟩ := Kd.R_typed hraw29 go27 rfl
                     have GG29_ := Aside0.mk hgg29
                     clear HP29 HS29 hgg29
                     refine hK.out _ _ ?_
                     clear hK K
                     refine norm_ (a' := ?_) ?_ ?_
                     rotate_left
                     · show Act.put _ (some 64) _ = _
                       simp only [Act.put, List.setIfInBounds_toArray, List.set_cons_zero, List.set_cons_succ, i64_w, i32_w]
                       rfl
                     refine pure_ (i := 12) (N := some 65) (v := ?_) (a' := ?_) #[t_, t_, t_, t_, t_, t_, t_, t_, t_, t_, t_, t_, t_, f_, f_] rfl rfl (any_of HT_.out (by kernel_rfl)) (fun _ _ _ h => h) (Or.inl ⟨by rfl, ?_⟩) ?_ ?_
                     rotate_left
                     · intro w'
                       go_simp
                       with_reducible rfl
                     rotate_left
                     · simp only [Act.put, List.setIfInBounds_toArray, List.set_cons_zero, List.set_cons_succ, i64_w, i32_w]
                       rfl
                     refine pure_ (i := 13) (N := some 66) (v := ?_) (a' := ?_) #[t_, t_, t_, t_, t_, t_, t_, t_, t_, t_, t_, t_, t_, t_, f_] rfl rfl (any_of HT_.out (by kernel_rfl)) (fun _ _ _ h => h) (Or.inl ⟨by rfl, ?_⟩) ?_ ?_
                     rotate_left
                     · intro w'
                       go_simp
                       with_reducible rfl
                     rotate_left
                     · simp only [Act.put, List.setIfInBounds_toArray, List.set_cons_zero, List.set_cons_succ, i64_w, i32_w]
                       rfl
                     refine last_ (i := 14) (N := none) #[t_, t_, t_, t_, t_, t_, t_, t_, t_, t_, t_, t_, t_, t_, t_] rfl rfl (one_of HT_.out (by kernel_rfl)) (by decide) (fun K hK => ?_)
                     refine skip_ (w1 := ?_) (by rfl) rfl ?_ ?_
                     rotate_left
                     · go_simp
                       rfl
                     refine hK.out _ _ ?_
                     clear hK K
                     refine done_ (done_of HT_.out (by kernel_rfl)) ?_
                     have n0_ : Aside0 (Kd.V Kd.string 9 (w28.setCell ⟨go27, ((ji16) : Int).toNat * 3 + 2, none⟩ (.slice Ao31 y357.length co31)) w.heap.size (fun k_ => (P1_ k_ ∧ k_ < w.heap.size) ∧ some k_ ≠ (.slice (some ⟨go27, 0, none⟩) x5_1.length co25 : Value).ownBlock) (.slice (some ad356) x1_1.length co24) x1_1) := ⟨by (with_reducible repeat (first | apply Kd.V_alloc | apply Kd.V_drewN | apply Kd.V_drew)); exact Kd.V_mono (Kd.V_far (p := ⟨go27, ((ji16) : Int).toNat * 3 + 2, none⟩) (Kd.V_mono HO_1.out (fun k_ hk => (⟨hk, fun e_ => hk.2 (by rw [e_]; rfl)⟩ : _ ∧ k_ ≠ go27))) (fun _ hk => hk.2) (.slice Ao31 y357.length co31)) (fun _ hk => ⟨hk.1.1, hk.1.2⟩)⟩
                     have n1_ : Aside0 (Kd.S k39 39 (w28.setCell ⟨go27, ((ji16) : Int).toNat * 3 + 2, none⟩ (.slice Ao31 y357.length co31)) w.heap.size (fun k_ => (w.heap.size ≤ k_)) (.slice (some ⟨go27, 0, none⟩) x5_1.length co25) y360) := ⟨by (with_reducible repeat (first | apply Kd.S_alloc | apply Kd.S_drewN | apply Kd.S_drew)); exact HQ29.out⟩
                     have n2_ : Aside0 (Below w.heap.size w (w28.setCell ⟨go27, ((ji16) : Int).toNat * 3 + 2, none⟩ (.slice Ao31 y357.length co31))) := ⟨by repeat (first | (with_reducible first | exact HB.out | apply below_alloc | apply pw_below_drewN | apply below_drew1 | refine below_set ?_ GB27.out) | exact HB.out)⟩
                     (try clear HO_1)
                     (try clear HO_5)
                     (try clear HB)
                     generalize (w28.setCell ⟨go27, ((ji16) : Int).toNat * 3 + 2, none⟩ (.slice Ao31 y357.length co31)) = w32 at n0_ n1_ n2_ ⊢
                     have HO_1 := n0_
                     have HO_5 := n1_
                     have HB := n2_
                     clear n0_ n1_ n2_
                     have q33 : (1 : Int) ≤ ((x1_1.length : Int) : Int) := of_decide_eq_true (by assumption)
                     obtain ⟨i033, hi033, _, hsz33, _⟩ := info_parts info9
                     have hroom33 : x1_1.length ≤ co24 := (Kd.V_reads' HO_1.out).2.1
                     have hC33 : Kd.F Kd.string _ _ (some ad356) x1_1.length x1_1 := (Kd.V_at (base := w.heap.size) HO_1.out).2.2
                     have hcut33 := cut_from (P := Try.prog) 30 9 .i64 Try.underlying30 hi033 1 hsz33 (some ad356) x1_1.length co24 1 (by omega) q33
                     have hr33 := Kd.F_cut (m := (1 : Int).toNat) (c := co24) hC33 (by omega) hroom33
                     obtain ⟨A33, hA33⟩ : ∃ A1, A1 = (if co24 = (1 : Int).toNat then (some ad356) else ((some ad356) : Option Addr).map (·.add ((1 : Int).toNat * 1))) := ⟨_, rfl⟩
                     obtain ⟨c33, hc33⟩ : ∃ c1, c1 = co24 - (1 : Int).toNat := ⟨_, rfl⟩
                     have hy33 : y361.length = x1_1.length - (1 : Int).toNat := (by rw [Ny361.out, List.length_drop] <;> omega)
                     rw [show (x1_1).drop (1 : Int).toNat = y361 from Ny361.out.symm] at hr33
                     replace hr33 : Kd.F Kd.string _ _ A33 y361.length y361 := (by rw [hA33]; exact hr33)
                     rw [← hy33, ← hA33, ← hc33] at hcut33
                     have HO365 := Aside0.mk (show Kd.V Kd.string 9 _ w.heap.size _ (.slice A33 y361.length c33) y361 from Kd.V_mk (by rw [hy33, hc33]; exact Nat.sub_le_sub_right hroom33 _) hr33)
                     have HC365 := Aside0.mk (show y361.length ≤ c33 from by rw [hy33, hc33]; exact Nat.sub_le_sub_right hroom33 _)
                     clear hr33 hC33 hroom33 hi033 hsz33 hc33
                     have KY33 := Aside0.mk hy33
                     have KA33 := Aside0.mk hA33
                     clear hy33 hA33
                     replace q33 := eq_true q33
                     try go_wp2
                     go_roundg k1
                     case measure => have := HK1.out; omega
                     case rel => exact ⟨(y361), (y360), H', ⟨by have := HK1.out; omega⟩, ⟨by (with_reducible repeat (first | apply Kd.V_alloc | apply Kd.V_drewN | apply Kd.V_drew)); exact HO365.out⟩, ⟨by (with_reducible repeat (first | apply Kd.S_alloc | apply Kd.S_drewN | apply Kd.S_drew)); exact HO_5.out⟩, ⟨by repeat (first | (with_reducible first | exact HB.out | apply below_alloc | apply pw_below_drewN | apply below_drew1) | exact HB.out)⟩⟩
                   · rw [if_neg c23] at H
                     exact absurd H (by simp)
                 · rw [if_neg c21] at H
                   exact absurd H (by simp)
               · rw [if_neg c20] at H
                 exact absurd H (by simp)
             · rw [if_neg c19] at H
               have c19b0 : (((rd_T39 x5_1 (ji16)).f1) == 0) = false := beq_eq_false_iff_ne.mpr c19
               have c19b1 : (((rd_T39 x5_1 (ji16)).f1) != 0) = true := bne_iff_ne.mpr c19
               by_cases c34 : 0 < (x1_1.length : Int)
               · rw [if_pos c34] at H
                 have c34b0 : decide (0 < (x1_1.length : Int)) = true := decide_eq_true c34
                 have c34b1 : decide (0 < x1_1.length) = true := decide_eq_true (by omega)
                 clear c34
                 obtain ⟨y367, hy367⟩ : ∃ y_ : List ByteArray, y_ = (([rdOf ByteArray.empty x1_1 0] : List ByteArray)) := ⟨_, rfl⟩
                 replace H : (if x5_1.length < 3518437208883 then (if 1 ≤ (x1_1.length : Int) then (impl_deltaOf.l0 k1 l0 (x1_1.drop 1) (x5_1 ++ [(⟨0, 0, y367⟩ : S39)])) else (none)) else (none)) = some r := by first | (rw [hy367]; with_reducible exact H) | (have H2_ := (Option.bind_some _ _).symm.trans H; rw [hy367]; with_reducible exact H2_) | (have H2_ := (Option.bind_some _ _).symm.trans H; with_reducible exact H2_) | with_reducible exact H | (rw [hy367]; exact H) | exact H
                 have Ny367 := Aside0.mk hy367
                 clear hy367
                 by_cases c35 : x5_1.length < 3518437208883
                 · rw [if_pos c35] at H
                   have LMc35 := Aside0.mk c35
                   clear c35
                   obtain ⟨y370, hy370⟩ : ∃ y_ : List (S39), y_ = (x5_1 ++ [(⟨0, 0, y367⟩ : S39)]) := ⟨_, rfl⟩
                   replace H : (if 1 ≤ (x1_1.length : Int) then (impl_deltaOf.l0 k1 l0 (x1_1.drop 1) y370) else (none)) = some r := by first | (rw [hy370]; with_reducible exact H) | (have H2_ := (Option.bind_some _ _).symm.trans H; rw [hy370]; with_reducible exact H2_) | (have H2_ := (Option.bind_some _ _).symm.trans H; with_reducible exact H2_) | with_reducible exact H | (rw [hy370]; exact H) | exact H
                   have Ny370 := Aside0.mk hy370
                   clear hy370
                   by_cases c36 : 1 ≤ (x1_1.length : Int)
                   · rw [if_pos c36] at H
                     have c36b0 := eq_true c36
                     have c36b1 : decide (1 ≤ (x1_1.length : Int)) = true := decide_eq_true c36
                     clear c36
                     obtain ⟨y373, hy373⟩ : ∃ y_ : List ByteArray, y_ = (x1_1.drop 1) := ⟨_, rfl⟩
                     replace H : (impl_deltaOf.l0 k1 l0 y373 y370) = some r := by first | (rw [hy373]; with_reducible exact H) | (have H2_ := (Option.bind_some _ _).symm.trans H; rw [hy373]; with_reducible exact H2_) | (have H2_ := (Option.bind_some _ _).symm.trans H; with_reducible exact H2_) | with_reducible exact H | (rw [hy373]; exact H) | exact H
                     have Ny373 := Aside0.mk hy373
                     clear hy373
                     have H' := Aside0.mk H
                     clear H
                     obtain ⟨Ao37, co37, eo37⟩ := Kd.V_slice HO_1.out
                     subst eo37
                     go_wp2_with (first | ((with_reducible refine gate_callee (f := 102) rfl ?_); refine goesL_ (some 16) rfl rfl Try.func102 (by kernel_rfl) rfl #[.slice A0 l0.length c0, .slice Ao37 x1_1.length co37] rfl (by (try simp only [List.map_toArray, List.map_cons, List.map_nil]); first | done | rfl | (simp only [List.length_drop, List.length_take]; rfl)) ?_; (with_reducible refine (impl_longestRun.calls k1 _ _ l0 _ _ x1_1 t344 t345 _ ?side1 ?side2 ?side3 ?side4 A6.out).mono ?_); (case side1 => repeat (first | exact (Kd.C_below HR0.out HB.out) | (with_reducible refine Kd.C_alloc ?_ _) | (with_reducible refine Kd.C_drewN ?_ _) | (with_reducible refine Kd.C_drew ?_))); (case side2 => exact HC0.out); (case side3 => repeat (first | exact (Kd.V_reads' HO_1.out).2.2 | (with_reducible refine Kd.C_alloc ?_ _) | (with_reducible refine Kd.C_drewN ?_ _) | (with_reducible refine Kd.C_drew ?_))); (case side4 => exact (Kd.V_reads' HO_1.out).2.1); rintro e w' ⟨rfl, ⟨nd, rfl⟩⟩; refine ⟨_, rfl, ?_⟩; obtain ⟨Ao38, co38, eo38⟩ := Kd.S_slice HO_5.out; subst eo38; have p354 : 0 ≤ ((ji16) : Int) := of_decide_eq_true (by assumption); have q354 : (ji16) < (x5_1.length : Int) := of_decide_eq_true (by assumption); obtain ⟨ad354, A354_2, c354_2, e354, hx354_0, hx354_1, hx354_2, hl354_2, hi354_2⟩ := at_T39 (Kd.S_reads' HO_5.out).2.2 (ji16) p354 q354; cases e354; obtain ⟨ce354, hce354, hMe354, hcc354⟩ := Kd.S_get HO_5.out z39 (ji16) p354 (by first | exact q354 | exact of_decide_eq_true (by assumption) | (have e_ := (Kd.S_reads' HO_5.out).1; omega)); obtain ⟨ve354_2, rfl, ge354_2⟩ := k39_openM hMe354; have hv354_2 := hcc354 2 _ rfl; rw [add_field _ _ 2 (by omega)] at hv354_2; replace hv354_2 := Option.some.inj (hv354_2.symm.trans hx354_2); rw [hv354_2] at ge354_2; have HL354_2 := Aside0.mk (show Kd.R Kd.string 9 _ _ _ _ ((rd_T39 x5_1 (ji16)).f2) from ge354_2); clear hv354_2 ge354_2; have HX354_2 := Aside0.mk hx354_2; clear hcc354 hce354; have HR354_2 := Aside0.mk hi354_2; have HC354_2 := Aside0.mk hl354_2; clear hi354_2 hl354_2; replace p354 := eq_true p354; replace q354 := eq_true q354; have p366 : 0 ≤ (0 : Int) := (by omega); have q366 : 0 < (x1_1.length : Int) := of_decide_eq_true (by assumption); obtain ⟨ad366, e366, hx366_0⟩ := Kd.at_string (Kd.V_reads' HO_1.out).2.2 0 p366 q366; cases e366; have qi366 : (0 < x1_1.length) = True := eq_true (by omega); (try rw [show ((0 : Int)).toNat = 0 from rfl] at hx366_0); (try rw [Addr.add_zero'] at hx366_0); replace p366 := eq_true p366; replace q366 := eq_true q366) | ((with_reducible refine gate_dst (N := 26) rfl ?_); refine Kd.R_lit Kd.string _ 9 ?hg (N := 26) ?hd (xs := ([rdOf ByteArray.empty x1_1 0] : List ByteArray)) (inner := [.string (rdOf ByteArray.empty x1_1 0)]) (ok := fun _ => True) (okp := fun _ => True) ?hr ?hp (fun _ hk => hk) trivial (Below.refl _ _) (Nat.le_refl _) (by simp) ?_; (case hd => rfl); (case hg => rfl); (case hr => first | (go_simp; done) | (go_simp; rfl)); (case hp => exact (Reps.one (show Kd.M Kd.string _ _ _ (rdOf ByteArray.empty x1_1 0) [.string (rdOf ByteArray.empty x1_1 0)] from rfl) (Reps.none _ _))); intro v368 w39 ho40 hb hg_ hnew_; clear hg_ hnew_; (first | rw [← Ny367.out] at ho40 | (simp only [Int.reduceToNat] at ho40; rw [← Ny367.out] at ho40)); have n0_ := Aside0.mk (Kd.V_elder' (by (with_reducible repeat (first | apply Kd.V_alloc | apply Kd.V_drewN | apply Kd.V_drew)); exact HO_1.out) (Kd.R_base ho40) hb); have n1_ := Aside0.mk (Kd.S_elder' (by (with_reducible repeat (first | apply Kd.S_alloc | apply Kd.S_drewN | apply Kd.S_drew)); exact HO_5.out) (Kd.R_base ho40) hb); have n2_ := Aside0.mk (Kd.R_elder' (by (with_reducible repeat (first | apply Kd.R_alloc | apply Kd.R_drewN | apply Kd.R_drew)); exact HL354_2.out) (Kd.R_base ho40) hb); have n3_ := Aside0.mk (Kd.R_lower (Kd.R_new' (Kd.R_newM (M := fun k_ => (w.heap.size ≤ k_)) ho40 (below_size (by repeat (first | (with_reducible first | exact HB.out | apply below_alloc | apply pw_below_drewN | apply below_drew1) | exact HB.out))) (fun k_ h_ => h_)) (Kd.R_lt (by (with_reducible repeat (first | apply Kd.R_alloc | apply Kd.R_drewN | apply Kd.R_drew)); exact HL354_2.out))) (below_size (by repeat (first | (with_reducible first | exact HB.out | apply below_alloc | apply pw_below_drewN | apply below_drew1) | exact HB.out)))); have n4_ := Aside0.mk (Kd.C_below (by repeat (first | (with_reducible exact HR354_2.out) | (with_reducible refine Kd.C_alloc ?_ _) | (with_reducible refine Kd.C_drewN ?_ _) | (with_reducible refine Kd.C_drew ?_) | exact HR354_2.out)) hb); have n5_ := Aside0.mk (pw_cell_below hb HX354_2.out); have n6_ := Aside0.mk (below_step (by repeat (first | (with_reducible first | exact HB.out | apply below_alloc | apply pw_below_drewN | apply below_drew1) | exact HB.out)) hb); clear HO_1; clear HO_5; clear HL354_2; clear HR354_2; clear HX354_2; clear HB; have HO_1 := n0_; have HO_5 := n1_; have HL354_2 := n2_; have HO369 := n3_; have HR354_2 := n4_; have HX354_2 := n5_; have HB := n6_; clear n0_ n1_ n2_ n3_ n4_ n5_ n6_; clear hb ho40; obtain ⟨Ao41, co41, eo41⟩ := Kd.R_slice HO369.out; subst eo41) | ((with_reducible refine gate_builtin (b := .append) (xs := #[.tmp 22, .tmp 28]) rfl ?_); at_builtin; refine Kd.S_append k39 (w0 := w) w.heap.size rfl (.tmp 22) (.tmp 28) 25 39 (.agg #[(.int .i64 0), (.int .i64 0), (.slice none 0 0)]) 40 rfl Try.underlying25 info39 rfl (by decide) (by omega) (.slice (some ad354) x5_1.length co38) x5_1 (⟨0, 0, y367⟩ : S39) [.int .i64 0, .int .i64 0, .slice Ao41 y367.length co41] (fun k_ => (w.heap.size ≤ k_)) (fun k_ => some k_ = (.slice Ao41 y367.length co41 : Value).ownBlock) rfl rfl ?aP (fun k_ hk_ => ((Kd.R_mono (ok' := fun k_ => ((fun k_ => (w.heap.size ≤ k_))) k_ ∧ some k_ ≠ (.slice (some ad354) x5_1.length co38 : Value).ownBlock) (Kd.R_apart' (HO369.out) (Kd.S_typed HO_5.out) (by decide)) (fun k_ hk => ⟨hk.1.1.1, hk.2⟩))).1 k_ hk_.symm) ?aF ?aO ?aB ?aS ?aL ?_; (case aP => exact k39_mkM _ _ _ (⟨0, 0, y367⟩ : S39) (Kd.R_mono (Kd.R_tight rfl (Kd.R_mono (ok' := fun k_ => ((fun k_ => (w.heap.size ≤ k_))) k_ ∧ some k_ ≠ (.slice (some ad354) x5_1.length co38 : Value).ownBlock) (Kd.R_apart' (HO369.out) (Kd.S_typed HO_5.out) (by decide)) (fun k_ hk => ⟨hk.1.1.1, hk.2⟩))) (fun _ h_ => h_))); (case aB => exact (by repeat (first | (with_reducible first | exact HB.out | apply below_alloc | apply pw_below_drewN | apply below_drew1) | exact HB.out))); (case aF => exact (fun k_ hk => (Nat.le_trans (below_size (by repeat (first | (with_reducible first | exact HB.out | apply below_alloc | apply pw_below_drewN | apply below_drew1) | exact HB.out))) hk))); (case aO => exact (by (with_reducible repeat (first | apply Kd.S_alloc | apply Kd.S_drewN | apply Kd.S_drew)); exact Kd.S_mono HO_5.out (fun k_ hk => ⟨hk.1, fun e_ => hk.2 e_⟩))); (case aS => exact (below_size (by repeat (first | (with_reducible first | exact HB.out | apply below_alloc | apply pw_below_drewN | apply below_drew1) | exact HB.out)))); (case aL => have := LMc35.out; omega); intro v371 w42 ho hb hg hat; rw [← Ny370.out] at ho; have n0_ := Aside0.mk (Kd.V_afterv (ok := (fun k_ => (P1_ k_ ∧ k_ < w.heap.size) ∧ some k_ ≠ (.slice Ao41 y367.length co41 : Value).ownBlock)) (by (with_reducible repeat (first | apply Kd.V_alloc | apply Kd.V_drewN | apply Kd.V_drew)); exact Kd.V_mono HO_1.out (fun _ hk => ⟨⟨hk.1.1, hk.2⟩, hk.1.2⟩)) hg hat); have n1_ := Aside0.mk (Kd.R_after (ok := (fun k_ => (w.heap.size ≤ k_) ∧ some k_ ≠ (.slice Ao41 y367.length co41 : Value).ownBlock)) (by (with_reducible repeat (first | apply Kd.R_alloc | apply Kd.R_drewN | apply Kd.R_drew)); exact Kd.R_mono HL354_2.out (fun _ hk => ⟨⟨hk.1.1, hk.2⟩, hk.1.2⟩)) hg hat); have n2_ := Aside0.mk (hb); have n3_ := Aside0.mk (ho); clear HO_1; clear HL354_2; clear HB; clear HO_5; clear HO369; have HO_1 := n0_; have HL354_2 := n1_; have HB := n2_; have HO372 := n3_; clear n0_ n1_ n2_ n3_; clear ho hb hg hat; have q43 : (1 : Int) ≤ ((x1_1.length : Int) : Int) := of_decide_eq_true (by assumption); obtain ⟨i043, hi043, _, hsz43, _⟩ := info_parts info9; have hroom43 : x1_1.length ≤ co37 := (Kd.V_reads' HO_1.out).2.1; have hC43 : Kd.F Kd.string _ _ (some ad366) x1_1.length x1_1 := (Kd.V_at (base := w.heap.size) HO_1.out).2.2; have hcut43 := cut_from (P := Try.prog) 30 9 .i64 Try.underlying30 hi043 1 hsz43 (some ad366) x1_1.length co37 1 (by omega) q43; have hr43 := Kd.F_cut (m := (1 : Int).toNat) (c := co37) hC43 (by omega) hroom43; obtain ⟨A43, hA43⟩ : ∃ A1, A1 = (if co37 = (1 : Int).toNat then (some ad366) else ((some ad366) : Option Addr).map (·.add ((1 : Int).toNat * 1))) := ⟨_, rfl⟩; obtain ⟨c43, hc43⟩ : ∃ c1, c1 = co37 - (1 : Int).toNat := ⟨_, rfl⟩; have hy43 : y373.length = x1_1.length - (1 : Int).toNat := (by rw [Ny373.out, List.length_drop] <;> omega); rw [show (x1_1).drop (1 : Int).toNat = y373 from Ny373.out.symm] at hr43; replace hr43 : Kd.F Kd.string _ _ A43 y373.length y373 := (by rw [hA43]; exact hr43); rw [← hy43, ← hA43, ← hc43] at hcut43; have HO377 := Aside0.mk (show Kd.V Kd.string 9 _ w.heap.size _ (.slice A43 y373.length c43) y373 from Kd.V_mk (by rw [hy43, hc43]; exact Nat.sub_le_sub_right hroom43 _) hr43); have HC377 := Aside0.mk (show y373.length ≤ c43 from by rw [hy43, hc43]; exact Nat.sub_le_sub_right hroom43 _); clear hr43 hC43 hroom43 hi043 hsz43 hc43; have KY43 := Aside0.mk hy43; have KA43 := Aside0.mk hA43; clear hy43 hA43; replace q43 := eq_true q43))
                     go_roundg k1
                     case measure => have := HK1.out; omega
                     case rel => exact ⟨(y373), (y370), H', ⟨by have := HK1.out; omega⟩, ⟨by (with_reducible repeat (first | apply Kd.V_alloc | apply Kd.V_drewN | apply Kd.V_drew)); exact Kd.V_mono HO377.out (fun _ hk => ⟨hk.1.1, hk.2⟩)⟩, ⟨by (with_reducible repeat (first | apply Kd.S_alloc | apply Kd.S_drewN | apply Kd.S_drew)); exact HO372.out⟩, ⟨by repeat (first | (with_reducible first | exact HB.out | apply below_alloc | apply pw_below_drewN | apply below_drew1) | exact HB.out)⟩⟩
                   · rw [if_neg c36] at H
                     exact absurd H (by simp)
                 · rw [if_neg c35] at H
                   exact absurd H (by simp)
               · rw [if_neg c34] at H
                 exact absurd H (by simp)
           · rw [if_neg c18] at H
             exact absurd H (by simp)
         · rw [if_neg c17] at H
           exact absurd H (by simp)
       · rw [if_neg c15] at H
         have c15b0 : decide (0 ≤ (wrap64 ((x5_1.length : Int) - 1))) = false := decide_eq_false c15
         clear c15
         by_cases c44 : 0 < (x1_1.length : Int)
         · rw [if_pos c44] at H
           have c44b0 : decide (0 < (x1_1.length : Int)) = true := decide_eq_true c44
           have c44b1 : decide (0 < x1_1.length) = true := decide_eq_true (by omega)
           clear c44
           obtain ⟨y379, hy379⟩ : ∃ y_ : List ByteArray, y_ = (([rdOf ByteArray.empty x1_1 0] : List ByteArray)) := ⟨_, rfl⟩
           replace H : (if x5_1.length < 3518437208883 then (if 1 ≤ (x1_1.length : Int) then (impl_deltaOf.l0 k1 l0 (x1_1.drop 1) (x5_1 ++ [(⟨0, 0, y379⟩ : S39)])) else (none)) else (none)) = some r := by first | (rw [hy379]; with_reducible exact H) | (have H2_ := (Option.bind_some _ _).symm.trans H; rw [hy379]; with_reducible exact H2_) | (have H2_ := (Option.bind_some _ _).symm.trans H; with_reducible exact H2_) | with_reducible exact H | (rw [hy379]; exact H) | exact H
           have Ny379 := Aside0.mk hy379
           clear hy379
           by_cases c45 : x5_1.length < 3518437208883
           · rw [if_pos c45] at H
             have LMc45 := Aside0.mk c45
             clear c45
             obtain ⟨y382, hy382⟩ : ∃ y_ : List (S39), y_ = (x5_1 ++ [(⟨0, 0, y379⟩ : S39)]) := ⟨_, rfl⟩
             replace H : (if 1 ≤ (x1_1.length : Int) then (impl_deltaOf.l0 k1 l0 (x1_1.drop 1) y382) else (none)) = some r := by first | (rw [hy382]; with_reducible exact H) | (have H2_ := (Option.bind_some _ _).symm.trans H; rw [hy382]; with_reducible exact H2_) | (have H2_ := (Option.bind_some _ _).symm.trans H; with_reducible exact H2_) | with_reducible exact H | (rw [hy382]; exact H) | exact H
             have Ny382 := Aside0.mk hy382
             clear hy382
             by_cases c46 : 1 ≤ (x1_1.length : Int)
             · rw [if_pos c46] at H
               have c46b0 := eq_true c46
               have c46b1 : decide (1 ≤ (x1_1.length : Int)) = true := decide_eq_true c46
               clear c46
               obtain ⟨y385, hy385⟩ : ∃ y_ : List ByteArray, y_ = (x1_1.drop 1) := ⟨_, rfl⟩
               replace H : (impl_deltaOf.l0 k1 l0 y385 y382) = some r := by first | (rw [hy385]; with_reducible exact H) | (have H2_ := (Option.bind_some _ _).symm.trans H; rw [hy385]; with_reducible exact H2_) | (have H2_ := (Option.bind_some _ _).symm.trans H; with_reducible exact H2_) | with_reducible exact H | (rw [hy385]; exact H) | exact H
               have Ny385 := Aside0.mk hy385
               clear hy385
               have H' := Aside0.mk H
               clear H
               obtain ⟨Ao47, co47, eo47⟩ := Kd.V_slice HO_1.out
               subst eo47
               go_wp2_with (first | ((with_reducible refine gate_callee (f := 102) rfl ?_); refine goesL_ (some 16) rfl rfl Try.func102 (by kernel_rfl) rfl #[.slice A0 l0.length c0, .slice Ao47 x1_1.length co47] rfl (by (try simp only [List.map_toArray, List.map_cons, List.map_nil]); first | done | rfl | (simp only [List.length_drop, List.length_take]; rfl)) ?_; (with_reducible refine (impl_longestRun.calls k1 _ _ l0 _ _ x1_1 t344 t345 _ ?side1 ?side2 ?side3 ?side4 A6.out).mono ?_); (case side1 => repeat (first | exact (Kd.C_below HR0.out HB.out) | (with_reducible refine Kd.C_alloc ?_ _) | (with_reducible refine Kd.C_drewN ?_ _) | (with_reducible refine Kd.C_drew ?_))); (case side2 => exact HC0.out); (case side3 => repeat (first | exact (Kd.V_reads' HO_1.out).2.2 | (with_reducible refine Kd.C_alloc ?_ _) | (with_reducible refine Kd.C_drewN ?_ _) | (with_reducible refine Kd.C_drew ?_))); (case side4 => exact (Kd.V_reads' HO_1.out).2.1); rintro e w' ⟨rfl, ⟨nd, rfl⟩⟩; refine ⟨_, rfl, ?_⟩; obtain ⟨Ao48, co48, eo48⟩ := Kd.S_slice HO_5.out; subst eo48; have p378 : 0 ≤ (0 : Int) := (by omega); have q378 : 0 < (x1_1.length : Int) := of_decide_eq_true (by assumption); obtain ⟨ad378, e378, hx378_0⟩ := Kd.at_string (Kd.V_reads' HO_1.out).2.2 0 p378 q378; cases e378; have qi378 : (0 < x1_1.length) = True := eq_true (by omega); (try rw [show ((0 : Int)).toNat = 0 from rfl] at hx378_0); (try rw [Addr.add_zero'] at hx378_0); replace p378 := eq_true p378; replace q378 := eq_true q378) | ((with_reducible refine gate_dst (N := 26) rfl ?_); refine Kd.R_lit Kd.string _ 9 ?hg (N := 26) ?hd (xs := ([rdOf ByteArray.empty x1_1 0] : List ByteArray)) (inner := [.string (rdOf ByteArray.empty x1_1 0)]) (ok := fun _ => True) (okp := fun _ => True) ?hr ?hp (fun _ hk => hk) trivial (Below.refl _ _) (Nat.le_refl _) (by simp) ?_; (case hd => rfl); (case hg => rfl); (case hr => first | (go_simp; done) | (go_simp; rfl)); (case hp => exact (Reps.one (show Kd.M Kd.string _ _ _ (rdOf ByteArray.empty x1_1 0) [.string (rdOf ByteArray.empty x1_1 0)] from rfl) (Reps.none _ _))); intro v380 w49 ho50 hb hg_ hnew_; clear hg_ hnew_; (first | rw [← Ny379.out] at ho50 | (simp only [Int.reduceToNat] at ho50; rw [← Ny379.out] at ho50)); have n0_ := Aside0.mk (Kd.V_elder' (by (with_reducible repeat (first | apply Kd.V_alloc | apply Kd.V_drewN | apply Kd.V_drew)); exact HO_1.out) (Kd.R_base ho50) hb); have n1_ := Aside0.mk (Kd.S_elder' (by (with_reducible repeat (first | apply Kd.S_alloc | apply Kd.S_drewN | apply Kd.S_drew)); exact HO_5.out) (Kd.R_base ho50) hb); have n2_ := Aside0.mk (Kd.R_lower (Kd.R_newM (M := fun k_ => (w.heap.size ≤ k_)) ho50 (below_size (by repeat (first | (with_reducible first | exact HB.out | apply below_alloc | apply pw_below_drewN | apply below_drew1) | exact HB.out))) (fun k_ h_ => h_)) (below_size (by repeat (first | (with_reducible first | exact HB.out | apply below_alloc | apply pw_below_drewN | apply below_drew1) | exact HB.out)))); have n3_ := Aside0.mk (below_step (by repeat (first | (with_reducible first | exact HB.out | apply below_alloc | apply pw_below_drewN | apply below_drew1) | exact HB.out)) hb); clear HO_1; clear HO_5; clear HB; have HO_1 := n0_; have HO_5 := n1_; have HO381 := n2_; have HB := n3_; clear n0_ n1_ n2_ n3_; clear hb ho50; obtain ⟨Ao51, co51, eo51⟩ := Kd.R_slice HO381.out; subst eo51) | ((with_reducible refine gate_builtin (b := .append) (xs := #[.tmp 22, .tmp 28]) rfl ?_); at_builtin; refine Kd.S_append k39 (w0 := w) w.heap.size rfl (.tmp 22) (.tmp 28) 25 39 (.agg #[(.int .i64 0), (.int .i64 0), (.slice none 0 0)]) 40 rfl Try.underlying25 info39 rfl (by decide) (by omega) (.slice Ao48 x5_1.length co48) x5_1 (⟨0, 0, y379⟩ : S39) [.int .i64 0, .int .i64 0, .slice Ao51 y379.length co51] (fun k_ => (w.heap.size ≤ k_)) (fun k_ => some k_ = (.slice Ao51 y379.length co51 : Value).ownBlock) rfl rfl ?aP (fun k_ hk_ => ((Kd.R_mono (ok' := fun k_ => ((fun k_ => (w.heap.size ≤ k_))) k_ ∧ some k_ ≠ (.slice Ao48 x5_1.length co48 : Value).ownBlock) (Kd.R_apart' (HO381.out) (Kd.S_typed HO_5.out) (by decide)) (fun k_ hk => ⟨hk.1.1, hk.2⟩))).1 k_ hk_.symm) ?aF ?aO ?aB ?aS ?aL ?_; (case aP => exact k39_mkM _ _ _ (⟨0, 0, y379⟩ : S39) (Kd.R_mono (Kd.R_tight rfl (Kd.R_mono (ok' := fun k_ => ((fun k_ => (w.heap.size ≤ k_))) k_ ∧ some k_ ≠ (.slice Ao48 x5_1.length co48 : Value).ownBlock) (Kd.R_apart' (HO381.out) (Kd.S_typed HO_5.out) (by decide)) (fun k_ hk => ⟨hk.1.1, hk.2⟩))) (fun _ h_ => h_))); (case aB => exact (by repeat (first | (with_reducible first | exact HB.out | apply below_alloc | apply pw_below_drewN | apply below_drew1) | exact HB.out))); (case aF => exact (fun k_ hk => (Nat.le_trans (below_size (by repeat (first | (with_reducible first | exact HB.out | apply below_alloc | apply pw_below_drewN | apply below_drew1) | exact HB.out))) hk))); (case aO => exact (by (with_reducible repeat (first | apply Kd.S_alloc | apply Kd.S_drewN | apply Kd.S_drew)); exact Kd.S_mono HO_5.out (fun k_ hk => ⟨hk.1, fun e_ => hk.2 e_⟩))); (case aS => exact (below_size (by repeat (first | (with_reducible first | exact HB.out | apply below_alloc | apply pw_below_drewN | apply below_drew1) | exact HB.out)))); (case aL => have := LMc45.out; omega); intro v383 w52 ho hb hg hat; rw [← Ny382.out] at ho; have n0_ := Aside0.mk (Kd.V_afterv (ok := (fun k_ => (P1_ k_ ∧ k_ < w.heap.size) ∧ some k_ ≠ (.slice Ao51 y379.length co51 : Value).ownBlock)) (by (with_reducible repeat (first | apply Kd.V_alloc | apply Kd.V_drewN | apply Kd.V_drew)); exact Kd.V_mono HO_1.out (fun _ hk => ⟨⟨hk.1.1, hk.2⟩, hk.1.2⟩)) hg hat); have n1_ := Aside0.mk (hb); have n2_ := Aside0.mk (ho); clear HO_1; clear HB; clear HO_5; clear HO381; have HO_1 := n0_; have HB := n1_; have HO384 := n2_; clear n0_ n1_ n2_; clear ho hb hg hat; have q53 : (1 : Int) ≤ ((x1_1.length : Int) : Int) := of_decide_eq_true (by assumption); obtain ⟨i053, hi053, _, hsz53, _⟩ := info_parts info9; have hroom53 : x1_1.length ≤ co47 := (Kd.V_reads' HO_1.out).2.1; have hC53 : Kd.F Kd.string _ _ (some ad378) x1_1.length x1_1 := (Kd.V_at (base := w.heap.size) HO_1.out).2.2; have hcut53 := cut_from (P := Try.prog) 30 9 .i64 Try.underlying30 hi053 1 hsz53 (some ad378) x1_1.length co47 1 (by omega) q53; have hr53 := Kd.F_cut (m := (1 : Int).toNat) (c := co47) hC53 (by omega) hroom53; obtain ⟨A53, hA53⟩ : ∃ A1, A1 = (if co47 = (1 : Int).toNat then (some ad378) else ((some ad378) : Option Addr).map (·.add ((1 : Int).toNat * 1))) := ⟨_, rfl⟩; obtain ⟨c53, hc53⟩ : ∃ c1, c1 = co47 - (1 : Int).toNat := ⟨_, rfl⟩; have hy53 : y385.length = x1_1.length - (1 : Int).toNat := (by rw [Ny385.out, List.length_drop] <;> omega); rw [show (x1_1).drop (1 : Int).toNat = y385 from Ny385.out.symm] at hr53; replace hr53 : Kd.F Kd.string _ _ A53 y385.length y385 := (by rw [hA53]; exact hr53); rw [← hy53, ← hA53, ← hc53] at hcut53; have HO389 := Aside0.mk (show Kd.V Kd.string 9 _ w.heap.size _ (.slice A53 y385.length c53) y385 from Kd.V_mk (by rw [hy53, hc53]; exact Nat.sub_le_sub_right hroom53 _) hr53); have HC389 := Aside0.mk (show y385.length ≤ c53 from by rw [hy53, hc53]; exact Nat.sub_le_sub_right hroom53 _); clear hr53 hC53 hroom53 hi053 hsz53 hc53; have KY53 := Aside0.mk hy53; have KA53 := Aside0.mk hA53; clear hy53 hA53; replace q53 := eq_true q53))
               go_roundg k1
               case measure => have := HK1.out; omega
               case rel => exact ⟨(y385), (y382), H', ⟨by have := HK1.out; omega⟩, ⟨by (with_reducible repeat (first | apply Kd.V_alloc | apply Kd.V_drewN | apply Kd.V_drew)); exact Kd.V_mono HO389.out (fun _ hk => ⟨hk.1.1, hk.2⟩)⟩, ⟨by (with_reducible repeat (first | apply Kd.S_alloc | apply Kd.S_drewN | apply Kd.S_drew)); exact HO384.out⟩, ⟨by repeat (first | (with_reducible first | exact HB.out | apply below_alloc | apply pw_below_drewN | apply below_drew1) | exact HB.out)⟩⟩
             · rw [if_neg c46] at H
               exact absurd H (by simp)
           · rw [if_neg c45] at H
             exact absurd H (by simp)
         · rw [if_neg c44] at H
           exact absurd H (by simp)
   · rw [if_neg c5] at H
     have c5b0 : decide (0 < (x1_1.length : Int)) = false := decide_eq_false c5
     have c5b1 : decide (0 < x1_1.length) = false := decide_eq_false (by omega)
     clear c5
     obtain rfl := Option.some.inj H
     obtain ⟨Ao54, co54, eo54⟩ := Kd.V_slice HO_1.out
     subst eo54
     go_wp2
     go_ret
     exact ⟨_, by first | rfl | (simp [errW_none, errW_some] <;> rfl) | (simp [*, errW_none, errW_some] <;> rfl), by (with_reducible repeat (first | apply Kd.S_alloc | apply Kd.S_drewN | apply Kd.S_drew)); exact HO_5.out, by repeat (first | (with_reducible first | exact HB.out | apply below_alloc | apply pw_below_drewN | apply below_drew1) | exact HB.out)⟩
end Go.Proofs.Ytfnhjaiioojbkaa.Q
end
section
namespace Go.Proofs.Ytfnhjaiioojbkaa.Q
open Go.RowKit Go.Proofs.YtfnhjaiioojbkaaW.PrintWords Go.Proofs.YtfnhjaiioojbkaaW.PrintLast Go.Proofs.YtfnhjaiioojbkaaW.PrintMore
attribute [local go_sem] max2_int min2_int max_two min_two max_three min_three max_four min_four   -- for this text's walks alone
set_option linter.unusedVariables false
set_option linter.unusedSimpArgs false
def impl_DeltaOf.f (k : Nat) (l0 : List ByteArray) (l1 : List ByteArray) : Option ((List (S39))) := (impl_TextOk.f k l0).bind fun t390 => (if t390 = true then ((impl_TextOk.f k l1).bind fun t391 => (if t391 = true then ((impl_deltaOf.f k l0 l1).bind fun t392 => (some t392)) else (some ([] : List (S39))))) else (some ([] : List (S39))))
theorem impl_DeltaOf.mono : ∀ a0 a1 k, LeO (impl_DeltaOf.f k a0 a1) (impl_DeltaOf.f (k + 1) a0 a1) := by
 intro a0 a1 k
 unfold impl_DeltaOf.f
 repeat' first
  | (with_reducible exact impl_TextOk.mono _ _)
  | (with_reducible exact impl_deltaOf.mono _ _ _)
  | (with_reducible exact LeO.refl _)
  | (with_reducible exact LeO.none _)
  | (with_reducible refine LeO.ite ?_ ?_)
  | (with_reducible refine LeO.bind ?_ (fun _ => ?_))
  | exact impl_TextOk.mono _ _
  | exact impl_deltaOf.mono _ _ _
  | exact LeO.none _
  | refine LeO.ite ?_ ?_
  | refine LeO.bind ?_ (fun _ => ?_)
set_option maxHeartbeats 8000000 in
set_option maxRecDepth 100000 in
theorem impl_DeltaOf.calls (k : Nat) (A0 : Option Addr) (c0 : Nat) (l0 : List ByteArray) (A1 : Option Addr) (c1 : Nat) (l1 : List ByteArray) (r : List (S39)) (w : World) (hr0 : Kd.C Kd.string w A0 l0.length l0) (hc0 : l0.length ≤ c0) (hr1 : Kd.C Kd.string w A1 l1.length l1) (hc1 : l1.length ≤ c1) (h : impl_DeltaOf.f k l0 l1 = some r) :
 Calls Try.prog 21 #[.slice A0 l0.length c0, .slice A1 l1.length c1] w fun e w' => ∃ v0_ : Value, e = .returned (v0_) ∧ Kd.S k39 39 w' w.heap.size (fun _ => True) v0_ r ∧ Below w.heap.size w w' := by
 have HR0 := Aside0.mk hr0
 have HC0 := Aside0.mk hc0
 clear hr0 hc0
 have HR1 := Aside0.mk hr1
 have HC1 := Aside0.mk hc1
 clear hr1 hc1
 have HB := Aside0.mk (Below.refl w.heap.size w)
 have H : ((impl_TextOk.f k l0).bind fun t390 => (if t390 = true then ((impl_TextOk.f k l1).bind fun t391 => (if t391 = true then ((impl_deltaOf.f k l0 l1).bind fun t392 => (some t392)) else (some ([] : List (S39))))) else (some ([] : List (S39))))) = some r := h
 clear h
 replace H := Option.bind_eq_some_iff.mp H
 obtain ⟨t390, A30, H⟩ := H
 replace H : (if t390 = true then ((impl_TextOk.f k l1).bind fun t391 => (if t391 = true then ((impl_deltaOf.f k l0 l1).bind fun t392 => (some t392)) else (some ([] : List (S39))))) else (some ([] : List (S39)))) = some r := H
 have A3 := Aside0.mk A30
 clear A30
 by_cases c4 : t390 = true
 · subst c4
   have H1 : ((impl_TextOk.f k l1).bind fun t391 => (if t391 = true then ((impl_deltaOf.f k l0 l1).bind fun t392 => (some t392)) else (some ([] : List (S39))))) = some r := by rw [if_pos rfl] at H; exact H
   clear H
   have H := H1
   clear H1
   replace H := Option.bind_eq_some_iff.mp H
   obtain ⟨t391, A50, H⟩ := H
   replace H : (if t391 = true then ((impl_deltaOf.f k l0 l1).bind fun t392 => (some t392)) else (some ([] : List (S39)))) = some r := H
   have A5 := Aside0.mk A50
   clear A50
   by_cases c6 : t391 = true
   · subst c6
     have H1 : ((impl_deltaOf.f k l0 l1).bind fun t392 => (some t392)) = some r := by rw [if_pos rfl] at H; exact H
     clear H
     have H := H1
     clear H1
     replace H := Option.bind_eq_some_iff.mp H
     obtain ⟨t392, A70, H⟩ := H
     replace H : (some t392) = some r := H
     have A7 := Aside0.mk A70
     clear A70
     obtain rfl := Option.some.inj H
     go_enter Try.func21, Try.ntmps21
     go_wp2_with (first | ((with_reducible refine gate_callee (f := 24) rfl ?_); refine goesL_ (some 6) rfl rfl Try.func24 (by kernel_rfl) rfl #[.slice A0 l0.length c0] rfl (by (try simp only [List.map_toArray, List.map_cons, List.map_nil]); first | done | rfl | (simp only [List.length_drop, List.length_take]; rfl)) ?_; (with_reducible refine (impl_TextOk.calls k _ _ l0 true _ ?side1 ?side2 A3.out).mono ?_); (case side1 => repeat (first | exact HR0.out | (with_reducible refine Kd.C_alloc ?_ _) | (with_reducible refine Kd.C_drewN ?_ _) | (with_reducible refine Kd.C_drew ?_))); (case side2 => exact HC0.out); rintro e w' ⟨rfl, ⟨nd, rfl⟩⟩; refine ⟨_, rfl, ?_⟩) | (go_at_call 24; (with_reducible refine (impl_TextOk.calls k _ _ l1 true _ ?side1 ?side2 A5.out).mono ?_); (case side1 => repeat (first | exact HR1.out | (with_reducible refine Kd.C_alloc ?_ _) | (with_reducible refine Kd.C_drewN ?_ _) | (with_reducible refine Kd.C_drew ?_))); (case side2 => exact HC1.out); rintro e w' ⟨rfl, ⟨nd, rfl⟩⟩) | ((with_reducible refine gate_callee (f := 70) rfl ?_); refine goesL_ (some 15) rfl rfl Try.func70 (by kernel_rfl) rfl #[.slice A0 l0.length c0, .slice A1 l1.length c1] rfl (by (try simp only [List.map_toArray, List.map_cons, List.map_nil]); first | done | rfl | (simp only [List.length_drop, List.length_take]; rfl)) ?_; (with_reducible refine (impl_deltaOf.calls k _ _ l0 (fun k_ => k_ < w.heap.size) _ _ l1 t392 _ ?side1 ?side2 ?side3 A7.out).mono ?_); (case side1 => repeat (first | exact HR0.out | (with_reducible refine Kd.C_alloc ?_ _) | (with_reducible refine Kd.C_drewN ?_ _) | (with_reducible refine Kd.C_drew ?_))); (case side2 => exact HC0.out); (case side3 => exact Kd.V_mk HC1.out (Kd.F_below (Kd.C_F Kd.heap_string HR1.out) (by repeat (first | (with_reducible first | exact HB.out | apply below_alloc | apply pw_below_drewN | apply below_drew1) | exact HB.out)))); rintro e w8 ⟨v393, rfl, ho0, hb⟩; refine ⟨_, rfl, ?_⟩; have n0_ := Aside0.mk (Kd.S_lower (Kd.S_mono (ok' := fun k_ => True) ho0 (fun _ hk_ => trivial)) (below_size (by repeat (first | (with_reducible first | exact HB.out | apply below_alloc | apply pw_below_drewN | apply below_drew1) | exact HB.out)))); have n1_ := Aside0.mk (below_step (by repeat (first | (with_reducible first | exact HB.out | apply below_alloc | apply pw_below_drewN | apply below_drew1) | exact HB.out)) hb); clear HB; have HO394 := n0_; have HB := n1_; clear n0_ n1_; (try clear hb); (try clear hb2); (try clear hk); (try clear hi); (try clear ho0)))
     go_ret
     exact ⟨_, by first | rfl | (simp [errW_none, errW_some] <;> rfl) | (simp [*, errW_none, errW_some] <;> rfl), by (with_reducible repeat (first | apply Kd.S_alloc | apply Kd.S_drewN | apply Kd.S_drew)); exact HO394.out, by repeat (first | (with_reducible first | exact HB.out | apply below_alloc | apply pw_below_drewN | apply below_drew1) | exact HB.out)⟩
   · replace c6 := Bool.eq_false_iff.mpr c6
     subst c6
     have H1 : (some ([] : List (S39))) = some r := by rw [if_neg (show ¬ (false = true) by decide)] at H; exact H
     clear H
     have H := H1
     clear H1
     obtain rfl := Option.some.inj H
     go_enter Try.func21, Try.ntmps21
     go_wp2_with (first | ((with_reducible refine gate_callee (f := 24) rfl ?_); refine goesL_ (some 6) rfl rfl Try.func24 (by kernel_rfl) rfl #[.slice A0 l0.length c0] rfl (by (try simp only [List.map_toArray, List.map_cons, List.map_nil]); first | done | rfl | (simp only [List.length_drop, List.length_take]; rfl)) ?_; (with_reducible refine (impl_TextOk.calls k _ _ l0 true _ ?side1 ?side2 A3.out).mono ?_); (case side1 => repeat (first | exact HR0.out | (with_reducible refine Kd.C_alloc ?_ _) | (with_reducible refine Kd.C_drewN ?_ _) | (with_reducible refine Kd.C_drew ?_))); (case side2 => exact HC0.out); rintro e w' ⟨rfl, ⟨nd, rfl⟩⟩; refine ⟨_, rfl, ?_⟩) | (go_at_call 24; (with_reducible refine (impl_TextOk.calls k _ _ l1 false _ ?side1 ?side2 A5.out).mono ?_); (case side1 => repeat (first | exact HR1.out | (with_reducible refine Kd.C_alloc ?_ _) | (with_reducible refine Kd.C_drewN ?_ _) | (with_reducible refine Kd.C_drew ?_))); (case side2 => exact HC1.out); rintro e w' ⟨rfl, ⟨nd, rfl⟩⟩))
     go_ret
     exact ⟨_, by first | rfl | (simp [errW_none, errW_some] <;> rfl) | (simp [*, errW_none, errW_some] <;> rfl), by first | exact Kd.S_nil _ _ _ _ _ | exact Kd.N_nil _ _ _ _ _ | exact Kd.V_nil _ _ _ _ _ | exact Kd.Q_nil _ _ _ _ _ | exact Kd.R_nil _ _ _ _ _, by repeat (first | (with_reducible first | exact HB.out | apply below_alloc | apply pw_below_drewN | apply below_drew1) | exact HB.out)⟩
 · replace c4 := Bool.eq_false_iff.mpr c4
   subst c4
   have H1 : (some ([] : List (S39))) = some r := by rw [if_neg (show ¬ (false = true) by decide)] at H; exact H
   clear H
   have H := H1
   clear H1
   obtain rfl := Option.some.inj H
   go_enter Try.func21, Try.ntmps21
   go_wp2_with (first | ((with_reducible refine gate_callee (f := 24) rfl ?_); refine goesL_ (some 6) rfl rfl Try.func24 (by kernel_rfl) rfl #[.slice A0 l0.length c0] rfl (by (try simp only [List.map_toArray, List.map_cons, List.map_nil]); first | done | rfl | (simp only [List.length_drop, List.length_take]; rfl)) ?_; (with_reducible refine (impl_TextOk.calls k _ _ l0 false _ ?side1 ?side2 A3.out).mono ?_); (case side1 => repeat (first | exact HR0.out | (with_reducible refine Kd.C_alloc ?_ _) | (with_reducible refine Kd.C_drewN ?_ _) | (with_reducible refine Kd.C_drew ?_))); (case side2 => exact HC0.out); rintro e w' ⟨rfl, ⟨nd, rfl⟩⟩; refine ⟨_, rfl, ?_⟩))
   go_ret
   exact ⟨_, by first | rfl | (simp [errW_none, errW_some] <;> rfl) | (simp [*, errW_none, errW_some] <;> rfl), by first | exact Kd.S_nil _ _ _ _ _ | exact Kd.N_nil _ _ _ _ _ | exact Kd.V_nil _ _ _ _ _ | exact Kd.Q_nil _ _ _ _ _ | exact Kd.R_nil _ _ _ _ _, by repeat (first | (with_reducible first | exact HB.out | apply below_alloc | apply pw_below_drewN | apply below_drew1) | exact HB.out)⟩
end Go.Proofs.Ytfnhjaiioojbkaa.Q
end
section
namespace Go.Proofs.Ytfnhjaiioojbkaa.Q
open Go.RowKit Go.Proofs.YtfnhjaiioojbkaaW.PrintWords Go.Proofs.YtfnhjaiioojbkaaW.PrintLast Go.Proofs.YtfnhjaiioojbkaaW.PrintMore
attribute [local go_sem] max2_int min2_int max_two min_two max_three min_three max_four min_four   -- for this text's walks alone
set_option linter.unusedVariables false
set_option linter.unusedSimpArgs false
def laws_smTexts.l0 : Nat → List ByteArray → List ByteArray → Int → Option (Bool)
 | 0, _, _, _ => none
 | k + 1, x0, x1, x5 => if x5 < (x0.length : Int) then (if 0 ≤ x5 then (if x5 < (x1.length : Int) then (if (rdOf ByteArray.empty x0 x5).toList = (rdOf ByteArray.empty x1 x5).toList then (laws_smTexts.l0 k x0 x1 (wrap64 (x5 + 1))) else (some false)) else (none)) else (none)) else (some true)
def laws_smTexts.f (k : Nat) (l0 : List ByteArray) (l1 : List ByteArray) : Option (Bool) := if (l0.length : Int) = (l1.length : Int) then (laws_smTexts.l0 k l0 l1 0) else (some false)
theorem laws_smTexts.mono_l : ∀ k, (∀ y0 y1 y2, LeO (laws_smTexts.l0 k y0 y1 y2) (laws_smTexts.l0 (k + 1) y0 y1 y2))
 | 0 => fun _ _ _ r h => by simp [laws_smTexts.l0] at h
 | k + 1 => by
  have ih0 := laws_smTexts.mono_l k
  · intro y0 y1 y2
    unfold laws_smTexts.l0
    repeat' first
    | (with_reducible exact ih0 _ _ _)
    | (with_reducible exact LeO.refl _)
    | (with_reducible exact LeO.none _)
    | (with_reducible refine LeO.ite ?_ ?_)
    | (with_reducible refine LeO.bind ?_ (fun _ => ?_))
    | exact ih0 _ _ _
    | exact LeO.none _
    | refine LeO.ite ?_ ?_
    | refine LeO.bind ?_ (fun _ => ?_)
theorem laws_smTexts.mono : ∀ a0 a1 k, LeO (laws_smTexts.f k a0 a1) (laws_smTexts.f (k + 1) a0 a1) := by
 intro a0 a1 k
 have ih0 := laws_smTexts.mono_l k
 unfold laws_smTexts.f
 repeat' first
  | (with_reducible exact ih0 _ _ _)
  | (with_reducible exact LeO.refl _)
  | (with_reducible exact LeO.none _)
  | (with_reducible refine LeO.ite ?_ ?_)
  | (with_reducible refine LeO.bind ?_ (fun _ => ?_))
  | exact ih0 _ _ _
  | exact LeO.none _
  | refine LeO.ite ?_ ?_
  | refine LeO.bind ?_ (fun _ => ?_)
set_option maxHeartbeats 8000000 in
set_option maxRecDepth 100000 in
theorem laws_smTexts.calls (k : Nat) (A0 : Option Addr) (c0 : Nat) (l0 : List ByteArray) (A1 : Option Addr) (c1 : Nat) (l1 : List ByteArray) (r : Bool) (w : World) (hr0 : Kd.C Kd.string w A0 l0.length l0) (hc0 : l0.length ≤ c0) (hr1 : Kd.C Kd.string w A1 l1.length l1) (hc1 : l1.length ≤ c1) (h : laws_smTexts.f k l0 l1 = some r) :
 Calls Try.prog 26 #[.slice A0 l0.length c0, .slice A1 l1.length c1] w fun e w' => e = .returned (.bool r) ∧ Drawn0 w w' := by
 have HR0 := Aside0.mk hr0
 have HC0 := Aside0.mk hc0
 clear hr0 hc0
 have HR1 := Aside0.mk hr1
 have HC1 := Aside0.mk hc1
 clear hr1 hc1
 have H : (if (l0.length : Int) = (l1.length : Int) then (laws_smTexts.l0 k l0 l1 0) else (some false)) = some r := h
 clear h
 by_cases c3 : (l0.length : Int) = (l1.length : Int)
 · rw [if_pos c3] at H
   have c3b0 : ((l0.length : Int) == (l1.length : Int)) = true := beq_iff_eq.mpr c3
   have c3b1 : ((l0.length : Int) != (l1.length : Int)) = false := bne_eq_false_iff_eq.mpr c3
   have c3b2 : (l0.length == l1.length) = true := by first | simpa using c3 | (simp at c3 ⊢; omega)
   clear c3
   have H' := Aside0.mk H
   clear H
   go_enter Try.func26, Try.ntmps26
   go_wp2
   repeat (go_quiet (fail); try go_wp2)
   go_loopg [5] k (fun kq v5 w' => ∃ (x5_1 : Int), v5 = .int .i64 x5_1 ∧ Aside0 (laws_smTexts.l0 kq l0 l1 x5_1 = some r) ∧ Aside0 (kq ≤ k) ∧ Drawn0 w w')
   case atStart => exact ⟨(0), (by first | rfl | (simp; done) | (simp [*]; done)), H', ⟨Nat.le_refl _⟩, by repeat (first | exact Drawn0.refl _ | apply Drawn0.step)⟩
   case round =>
    clear H'
    try clear c1
    try clear c2
    try clear p2
    try clear c3
    try clear c3b0
    try clear c3b1
    try clear c3b2
    obtain ⟨x5_1, rfl, HA, HK1, ⟨m1, rfl⟩⟩ := hrel
    cases gk with
    | zero => exact absurd HA.out (by simp [laws_smTexts.l0])
    | succ k1 =>
     have H := HA.out
     clear HA
     simp only [laws_smTexts.l0] at H
     by_cases c4 : x5_1 < (l0.length : Int)
     · rw [if_pos c4] at H
       have c4b0 : decide (x5_1 < (l0.length : Int)) = true := decide_eq_true c4
       clear c4
       by_cases c5 : 0 ≤ x5_1
       · rw [if_pos c5] at H
         have c5b0 : decide (0 ≤ x5_1) = true := decide_eq_true c5
         clear c5
         by_cases c6 : x5_1 < (l1.length : Int)
         · rw [if_pos c6] at H
           have c6b0 : decide (x5_1 < (l1.length : Int)) = true := decide_eq_true c6
           clear c6
           by_cases c7 : (rdOf ByteArray.empty l0 x5_1).toList = (rdOf ByteArray.empty l1 x5_1).toList
           · rw [if_pos c7] at H
             have c7b0 : ((rdOf ByteArray.empty l0 x5_1).toList == (rdOf ByteArray.empty l1 x5_1).toList) = true := beq_iff_eq.mpr c7
             have c7b1 : ((rdOf ByteArray.empty l0 x5_1).toList != (rdOf ByteArray.empty l1 x5_1).toList) = false := bne_eq_false_iff_eq.mpr c7
             clear c7
             have H' := Aside0.mk H
             clear H
             have p395 : 0 ≤ (x5_1 : Int) := of_decide_eq_true (by assumption)
             have q395 : x5_1 < (l0.length : Int) := of_decide_eq_true (by assumption)
             obtain ⟨ad395, e395, hx395_0⟩ := Kd.at_string HR0.out x5_1 p395 q395
             cases e395
             replace p395 := eq_true p395
             replace q395 := eq_true q395
             have p396 : 0 ≤ (x5_1 : Int) := of_decide_eq_true (by assumption)
             have q396 : x5_1 < (l1.length : Int) := of_decide_eq_true (by assumption)
             obtain ⟨ad396, e396, hx396_0⟩ := Kd.at_string HR1.out x5_1 p396 q396
             cases e396
             replace p396 := eq_true p396
             replace q396 := eq_true q396
             go_wp2
             repeat (go_quiet (fail); try go_wp2)
             go_roundg k1
             case measure => have := HK1.out; omega
             case rel => exact ⟨(wrap64 (x5_1 + 1)), (by first | rfl | (simp; done) | (simp [*]; done)), H', ⟨by have := HK1.out; omega⟩, by repeat (first | exact Drawn0.refl _ | apply Drawn0.step)⟩
           · rw [if_neg c7] at H
             have c7b0 : ((rdOf ByteArray.empty l0 x5_1).toList == (rdOf ByteArray.empty l1 x5_1).toList) = false := beq_eq_false_iff_ne.mpr c7
             have c7b1 : ((rdOf ByteArray.empty l0 x5_1).toList != (rdOf ByteArray.empty l1 x5_1).toList) = true := bne_iff_ne.mpr c7
             obtain rfl := Option.some.inj H
             have p395 : 0 ≤ (x5_1 : Int) := of_decide_eq_true (by assumption)
             have q395 : x5_1 < (l0.length : Int) := of_decide_eq_true (by assumption)
             obtain ⟨ad395, e395, hx395_0⟩ := Kd.at_string HR0.out x5_1 p395 q395
             cases e395
             replace p395 := eq_true p395
             replace q395 := eq_true q395
             have p396 : 0 ≤ (x5_1 : Int) := of_decide_eq_true (by assumption)
             have q396 : x5_1 < (l1.length : Int) := of_decide_eq_true (by assumption)
             obtain ⟨ad396, e396, hx396_0⟩ := Kd.at_string HR1.out x5_1 p396 q396
             cases e396
             replace p396 := eq_true p396
             replace q396 := eq_true q396
             go_wp2
             repeat (go_quiet (fail); try go_wp2)
             go_ret
             exact ⟨by first | rfl | (simp; done) | (simp [*]; done), by repeat (first | exact Drawn0.refl _ | apply Drawn0.step)⟩
         · rw [if_neg c6] at H
           exact absurd H (by simp)
       · rw [if_neg c5] at H
         exact absurd H (by simp)
     · rw [if_neg c4] at H
       have c4b0 : decide (x5_1 < (l0.length : Int)) = false := decide_eq_false c4
       clear c4
       obtain rfl := Option.some.inj H
       go_wp2
       repeat (go_quiet (fail); try go_wp2)
       go_ret
       exact ⟨by first | rfl | (simp; done) | (simp [*]; done), by repeat (first | exact Drawn0.refl _ | apply Drawn0.step)⟩
 · rw [if_neg c3] at H
   have c3b0 : ((l0.length : Int) == (l1.length : Int)) = false := beq_eq_false_iff_ne.mpr c3
   have c3b1 : ((l0.length : Int) != (l1.length : Int)) = true := bne_iff_ne.mpr c3
   have c3b2 : (l0.length == l1.length) = false := by first | simpa using c3 | (simp at c3 ⊢; omega)
   obtain rfl := Option.some.inj H
   go_enter Try.func26, Try.ntmps26
   go_wp2
   repeat (go_quiet (fail); try go_wp2)
   go_ret
   exact ⟨by first | rfl | (simp; done) | (simp [*]; done), by repeat (first | exact Drawn0.refl _ | apply Drawn0.step)⟩
end Go.Proofs.Ytfnhjaiioojbkaa.Q
end
