/- FnExactDeltaOk: for every argument the law returns true, and its arguments read behind the call as they read before. No conditions. -/
import Derived.Shelf.Abstract
import Derived.Test.YtfnhjaiioojbkaaRows
import Derived.WalkKit
import Derived.ProofKit
import Derived.OpenShut
import Derived.ShutString
import Derived.ChangeOld
import Derived.Below
import Derived.SizedLaws
import Derived.Test.YtfnhjaiioojbkaaMExactDeltaOk1
set_option linter.unusedVariables false
set_option linter.unusedSimpArgs false
section
namespace Go.Proofs.Ytfnhjaiioojbkaa.Q
open Go.RowKit Go.Proofs.YtfnhjaiioojbkaaW.PrintWords Go.Proofs.YtfnhjaiioojbkaaW.PrintLast Go.Proofs.YtfnhjaiioojbkaaW.PrintMore
attribute [local go_sem] max2_int min2_int max_two min_two max_three min_three max_four min_four
set_option linter.unusedVariables false
set_option linter.unusedSimpArgs false
theorem C_map {α β : Type} {d : Kd α} {d' : Kd β} {f : α → β} (hs : d'.sz = d.sz) (hf : ∀ w x cs, d.K w x cs → d'.K w (f x) cs) {w : World} {A : Option Addr} {n m : Nat} {xs : List α} (h : d.C w A n xs) (hm : m = n) : d'.C w A m (xs.map f) := by
  subst hm
  refine ⟨by rw [List.length_map]; exact h.1, h.2.1, fun hn => ?_⟩
  obtain ⟨ad, e, hc⟩ := h.2.2 hn
  refine ⟨ad, e, fun j p hj => ?_⟩
  rw [List.getElem?_map] at hj
  obtain ⟨q, hq, rfl⟩ := Option.map_eq_some_iff.mp hj
  obtain ⟨c, h1, h2, h3⟩ := hc j q hq
  exact ⟨c, by rw [hs]; exact h1, hf _ _ _ h2, by rw [hs]; exact h3⟩
theorem fsl_plain {α : Type} {d : Kd α} {e : Nat} {w : World} {x : List α × Nat} {cs : List Value} (h : (fsl e d).K w x cs) : (Kd.slice e d).K w (x.1.take x.2) cs := by
  obtain ⟨A, c, rfl, hn, hl, hC⟩ := h
  have e1 : (x.1.take x.2).length = x.2 := by rw [List.length_take]; omega
  exact ⟨A, c, by rw [e1], by omega, Kd.C_take hC hn⟩
def plD (x : Int × Int × (List ByteArray × Nat)) : S39 := ⟨x.1, x.2.1, x.2.2.1.take x.2.2.2⟩
theorem kDF_plain (w : World) (x : Int × Int × (List ByteArray × Nat)) (cs : List Value) (h : kDF.K w x cs) : k39.K w (plD x) cs := by
  obtain ⟨c0, c1, rfl, h0, ⟨c2, c3, rfl, h1, h2⟩⟩ := h
  exact ⟨c0, _, rfl, h0, ⟨c2, _, rfl, h1, fsl_plain h2⟩⟩
theorem C_plD {w : World} {A : Option Addr} {xs : List (Int × Int × (List ByteArray × Nat))} (h : Kd.C kDF w A xs.length xs) : Kd.C k39 w A (xs.map plD).length (xs.map plD) := by
  rw [List.length_map]
  exact C_map (d := kDF) (d' := k39) (f := plD) rfl kDF_plain h rfl
def rd_DF (xs : List (Int × Int × (List ByteArray × Nat))) (i : Int) : Int × Int × (List ByteArray × Nat) := xs.getD i.toNat zDF
theorem at_DF {w : World} {A : Option Addr} {n : Nat} {xs : List (Int × Int × (List ByteArray × Nat))} (h : Kd.C kDF w A n xs) (i : Int) (h0 : 0 ≤ i) (h1 : i < n) : ∃ ad A2 c2, A = some ad ∧ w.cell? (ad.add (i.toNat * 3)) = some (.int .i64 (rd_DF xs i).1) ∧ w.cell? ⟨(ad.add (i.toNat * 3)).block, (ad.add (i.toNat * 3)).off + 1, none⟩ = some (.int .i64 (rd_DF xs i).2.1) ∧ w.cell? ⟨(ad.add (i.toNat * 3)).block, (ad.add (i.toNat * 3)).off + 2, none⟩ = some (.slice A2 (rd_DF xs i).2.2.2 c2) ∧ (rd_DF xs i).2.2.1.length ≤ c2 ∧ Kd.string.C w A2 (rd_DF xs i).2.2.1.length (rd_DF xs i).2.2.1 := by
  obtain ⟨ad, c, e, _, hK, hc0⟩ := Kd.C_get h zDF i h0 h1
  have hc : ∀ j u, c[j]? = some u → w.cell? (ad.add (i.toNat * 3 + j)) = some u := hc0
  obtain ⟨_, _, rfl, rfl, ⟨_, _, rfl, rfl, ⟨A2, c2, rfl, _, l2, g2⟩⟩⟩ := hK
  exact ⟨ad, A2, c2, e, hc 0 _ rfl, by rw [← add_field _ _ 1 (by omega)]; exact hc 1 _ rfl, by rw [← add_field _ _ 2 (by omega)]; exact hc 2 _ rfl, l2, g2⟩
def intDS_calls_T7 : Bool × List (List Nat × List Nat) := (true, [([], []), ([], []), ([0, 1], [0, 1]), ([2], [2]), ([], []), ([], []), ([4, 5], [4, 5]), ([6], [6]), ([3, 7], [3, 7]), ([8], [8])])
def intDS_calls_B7 : List Nat := [0, 0, 3, 7, 0, 0, 48, 112, 255, 511]
theorem intDS_calls_tab7 : rtab .any (opsOf Try.f19 7) = intDS_calls_T7 := by kernel_rfl
theorem intDS_calls_bits7 : waitsOk intDS_calls_T7.2 intDS_calls_B7 = true := by kernel_rfl
def intDS_calls_T9 : Bool × List (List Nat × List Nat) := (true, [([], []), ([], []), ([1], [1]), ([], []), ([0, 2, 3], [0, 2, 3]), ([], []), ([], []), ([6], [6]), ([], []), ([5, 7, 8], [5, 7, 8]), ([4, 9], [4, 9]), ([10, 10, 0, 1, 2, 3, 4, 5, 6, 7, 8, 9, 10], [10])])
def intDS_calls_B9 : List Nat := [0, 0, 2, 0, 15, 0, 0, 64, 0, 480, 1023, 2047]
theorem intDS_calls_tab9 : rtab .any (opsOf Try.f19 9) = intDS_calls_T9 := by kernel_rfl
theorem intDS_calls_bits9 : waitsOk intDS_calls_T9.2 intDS_calls_B9 = true := by kernel_rfl
set_option maxHeartbeats 8000000 in
set_option maxRecDepth 100000 in
theorem intDS_calls (A0 A1 : Option Addr) (c0 c1 : Nat) (F : List (Int × Int × (List ByteArray × Nat))) (n : Nat) (w : World) (hr0 : Kd.C kDF w A0 F.length F) (hc0 : F.length ≤ c0) (hr1 : Kd.C kDF w A1 F.length F) (hc1 : F.length ≤ c1) (hN : FulN F.length n)
    (hE : ∀ i : Nat, i < n → FulN (rd_DF F i).2.2.1.length (rd_DF F i).2.2.2) (hQ : ∃ K, laws_eqDeltaS.f K ((F.drop n).map plD) ((F.drop n).map plD) = some true) :
    Calls Try.prog 19 #[.slice A0 n c0, .slice A1 n c1] w fun e w' => e = .returned (.bool true) ∧ Below w.heap.size w w' := by
  have hu39 := Try.underlying39
  obtain ⟨KQ, hK⟩ := hQ
  obtain ⟨Y, hY⟩ : ∃ Y, (F.drop n).map plD = Y := ⟨_, rfl⟩
  rw [hY] at hK
  have HQ := Aside0.mk hK
  have HYe := Aside0.mk hY
  have HR0 := Aside0.mk hr0
  have HC0 := Aside0.mk hc0
  have HR1 := Aside0.mk hr1
  have HC1 := Aside0.mk hc1
  have HN := Aside0.mk hN
  have HE := Aside0.mk hE
  have HNl := Aside0.mk (show n ≤ F.length by have := hN.1; omega)
  have HNb := Aside0.mk hN.2
  have hw : wrap64 ((n : Int) + (room n : Int)) = (F.length : Int) := by have := hN.1; have := hN.2; have := room_le n; unfold wrap64; omega
  have hw2 : (IntKind.i64.wrap ((n : Int) + (room n : Int))) = (F.length : Int) := (i64_w _).trans hw
  have R9 := Aside0.mk (room_ev n)
  have e0 : ((n : Int) == (n : Int)) = true := by simp
  have e1 : ((n : Int) != (n : Int)) = false := by simp
  clear hK hY hr0 hc0 hr1 hc1 hN hE
  have HB := Aside0.mk (Below.refl w.heap.size w)
  go_enter Try.func19, Try.ntmps19
  go_wp2_with (first | ((with_reducible refine gate_callee (f := 62) rfl ?_); refine goesL_ (some 11) rfl rfl Try.func62 (by kernel_rfl) rfl #[.int .i64 (n : Int)] rfl (by (try simp only [List.map_toArray, List.map_cons, List.map_nil]); first | done | rfl) ?_; (with_reducible refine (laws_roomBehind.calls (n : Int) _ _ R9.out).mono ?_); rintro e w' ⟨rfl, ⟨nd, rfl⟩⟩; refine ⟨_, rfl, ?_⟩))
  clear hw hw2 e0 e1 R9
  go_loopg [6] n (fun gg v6 w' => ∃ (x6_1 : Int), v6 = .int .i64 x6_1 ∧ 0 ≤ x6_1 ∧ x6_1 ≤ (n : Int) ∧ ((n : Int) - x6_1).toNat ≤ gg ∧ Aside0 (Below w.heap.size w w'))
  case atStart => exact ⟨0, rfl, Int.le_refl _, by omega, by omega, ⟨by repeat (first | (with_reducible first | exact HB.out | apply below_alloc | apply pw_below_drewN | apply below_drew1) | exact HB.out)⟩⟩
  case round =>
    clear HB
    obtain ⟨x6_1, rfl, x0, xn, hg, HB⟩ := hrel
    by_cases c5 : x6_1 < (n : Int)
    · have c5b0 : decide (x6_1 < (n : Int)) = true := decide_eq_true c5
      have c6b0 : decide (0 ≤ x6_1) = true := decide_eq_true x0
      have HEi := Aside0.mk (HE.out x6_1.toNat (by omega))
      have HX := Aside0.mk x0
      have HX2 := Aside0.mk c5
      have HG := Aside0.mk hg
      clear c5 xn hg x0
      · ·
          try go_wp2
          have n0_ := Aside0.mk (below_drew1 HB.out)
          clear HB
          have HB := n0_
          clear n0_
          have p172 : 0 ≤ (x6_1 : Int) := of_decide_eq_true (by assumption)
          have q172 : x6_1 < (n : Int) := of_decide_eq_true (by assumption)
          obtain ⟨ad172, A172_2, c172_2, e172, hx172_0, hx172_1, hx172_2, hl172_2, hi172_2⟩ := at_DF HR0.out x6_1 p172 (by have := HNl.out; omega)
          have hw172_2 := hx172_2
          have hw172_1 := hx172_1
          have hw172_0 := hx172_0
          cases e172
          replace hx172_0 := (HB.out.cell (World.block_lt_of_cell? w _ hx172_0)).trans hx172_0
          replace hx172_1 := (HB.out.cell (World.block_lt_of_cell? w _ hx172_1)).trans hx172_1
          replace hx172_2 := (HB.out.cell (World.block_lt_of_cell? w _ hx172_2)).trans hx172_2
          have HR172_2 := Aside0.mk hi172_2
          have HC172_2 := Aside0.mk hl172_2
          clear hi172_2 hl172_2
          replace p172 := eq_true p172
          replace q172 := eq_true q172
          have p173 : 0 ≤ (x6_1 : Int) := of_decide_eq_true (by assumption)
          have q173 : x6_1 < (n : Int) := of_decide_eq_true (by assumption)
          obtain ⟨ad173, A173_2, c173_2, e173, hx173_0, hx173_1, hx173_2, hl173_2, hi173_2⟩ := at_DF HR1.out x6_1 p173 (by have := HNl.out; omega)
          have hw173_2 := hx173_2
          have hw173_1 := hx173_1
          have hw173_0 := hx173_0
          cases e173
          replace hx173_0 := (HB.out.cell (World.block_lt_of_cell? w _ hx173_0)).trans hx173_0
          replace hx173_1 := (HB.out.cell (World.block_lt_of_cell? w _ hx173_1)).trans hx173_1
          replace hx173_2 := (HB.out.cell (World.block_lt_of_cell? w _ hx173_2)).trans hx173_2
          have HR173_2 := Aside0.mk hi173_2
          have HC173_2 := Aside0.mk hl173_2
          clear hi173_2 hl173_2
          replace p173 := eq_true p173
          replace q173 := eq_true q173
          refine start_ (n := 10) (S := fun w' => w'.cell? (ad172.add ((x6_1).toNat * 3)) = some (.int .i64 ((rd_DF F x6_1).1)) ∧ w'.cell? ⟨(ad172.add ((x6_1).toNat * 3)).block, (ad172.add ((x6_1).toNat * 3)).off + 1, none⟩ = some (.int .i64 ((rd_DF F x6_1).2.1)) ∧ w'.cell? ⟨(ad172.add ((x6_1).toNat * 3)).block, (ad172.add ((x6_1).toNat * 3)).off + 2, none⟩ = some (.slice A172_2 ((rd_DF F x6_1).2.2.2) c172_2) ∧ w'.cell? (ad173.add ((x6_1).toNat * 3)) = some (.int .i64 ((rd_DF F x6_1).1)) ∧ w'.cell? ⟨(ad173.add ((x6_1).toNat * 3)).block, (ad173.add ((x6_1).toNat * 3)).off + 1, none⟩ = some (.int .i64 ((rd_DF F x6_1).2.1)) ∧ w'.cell? ⟨(ad173.add ((x6_1).toNat * 3)).block, (ad173.add ((x6_1).toNat * 3)).off + 2, none⟩ = some (.slice A173_2 ((rd_DF F x6_1).2.2.2) c173_2)) (ds := []) #[f_, f_, f_, f_, f_, f_, f_, f_, f_, f_] (by kernel_rfl) rfl rfl ⟨((HB.out.cell (World.block_lt_of_cell? w _ hw172_0)).trans hw172_0), ((HB.out.cell (World.block_lt_of_cell? w _ hw172_1)).trans hw172_1), ((HB.out.cell (World.block_lt_of_cell? w _ hw172_2)).trans hw172_2), ((HB.out.cell (World.block_lt_of_cell? w _ hw173_0)).trans hw173_0), ((HB.out.cell (World.block_lt_of_cell? w _ hw173_1)).trans hw173_1), ((HB.out.cell (World.block_lt_of_cell? w _ hw173_2)).trans hw173_2)⟩ (fun hHeld => ?_); refine with_tabW intDS_calls_tab7 intDS_calls_bits7 (fun HT_ HW_ => ?_)
          generalize wr.drew = w10 at HB HR172_2 HR173_2 hx172_0 hx172_1 hx172_2 hx173_0 hx173_1 hx173_2 hHeld ⊢
          refine pure_ (i := 0) (N := some 24) (v := ?_) (a' := ?_) #[t_, f_, f_, f_, f_, f_, f_, f_, f_, f_] rfl rfl (any_of HT_.out (by kernel_rfl)) (fun _ _ _ h => h) (Or.inl ⟨by rfl, ?_⟩) ?_ ?_
          rotate_left
          · intro w'
            go_simp
            with_reducible rfl
          rotate_left
          · simp only [Act.put, List.setIfInBounds_toArray, List.set_cons_zero, List.set_cons_succ, i64_w, i32_w]
            rfl
          refine pure_ (i := 1) (N := some 25) (v := ?_) (a' := ?_) #[t_, t_, f_, f_, f_, f_, f_, f_, f_, f_] rfl rfl (any_of HT_.out (by kernel_rfl)) (fun _ _ _ h => h) (Or.inl ⟨by rfl, ?_⟩) ?_ ?_
          rotate_left
          · intro w'
            go_simp
            with_reducible rfl
          rotate_left
          · simp only [Act.put, List.setIfInBounds_toArray, List.set_cons_zero, List.set_cons_succ, i64_w, i32_w]
            rfl
          refine pure_ (i := 2) (N := some 26) (v := ?_) (a' := ?_) #[t_, t_, t_, f_, f_, f_, f_, f_, f_, f_] rfl rfl (any_of HT_.out (by kernel_rfl)) (fun _ _ _ h => h) (Or.inl ⟨by rfl, ?_⟩) ?_ ?_
          rotate_left
          · intro w'
            go_simp
            with_reducible rfl
          rotate_left
          · simp only [Act.put, List.setIfInBounds_toArray, List.set_cons_zero, List.set_cons_succ, i64_w, i32_w]
            rfl
          refine pure_ (i := 4) (N := some 28) (v := ?_) (a' := ?_) #[t_, t_, t_, f_, t_, f_, f_, f_, f_, f_] rfl rfl (any_of HT_.out (by kernel_rfl)) (fun _ _ _ h => h) (Or.inl ⟨by rfl, ?_⟩) ?_ ?_
          rotate_left
          · intro w'
            go_simp
            with_reducible rfl
          rotate_left
          · simp only [Act.put, List.setIfInBounds_toArray, List.set_cons_zero, List.set_cons_succ, i64_w, i32_w]
            rfl
          refine pure_ (i := 5) (N := some 29) (v := ?_) (a' := ?_) #[t_, t_, t_, f_, t_, t_, f_, f_, f_, f_] rfl rfl (any_of HT_.out (by kernel_rfl)) (fun _ _ _ h => h) (Or.inl ⟨by rfl, ?_⟩) ?_ ?_
          rotate_left
          · intro w'
            go_simp
            with_reducible rfl
          rotate_left
          · simp only [Act.put, List.setIfInBounds_toArray, List.set_cons_zero, List.set_cons_succ, i64_w, i32_w]
            rfl
          refine pure_ (i := 6) (N := some 30) (v := ?_) (a' := ?_) #[t_, t_, t_, f_, t_, t_, t_, f_, f_, f_] rfl rfl (any_of HT_.out (by kernel_rfl)) (fun _ _ _ h => h) (Or.inl ⟨by rfl, ?_⟩) ?_ ?_
          rotate_left
          · intro w'
            go_simp
            with_reducible rfl
          rotate_left
          · simp only [Act.put, List.setIfInBounds_toArray, List.set_cons_zero, List.set_cons_succ, i64_w, i32_w]
            rfl
          refine take_ (i := 3) (N := some 27) (v := ?_) (a' := ?_) #[t_, t_, t_, t_, t_, t_, t_, f_, f_, f_] rfl rfl (take_ofW HT_.out HW_.out (by kernel_rfl)) (fun _ _ _ h => h) (Or.inl ⟨by rfl, ?_⟩) hHeld ?_ ?_
          rotate_left
          · rintro w' ⟨s0, s1, s2, s3, s4, s5⟩
            go_simp
            with_reducible rfl
          rotate_left
          · simp only [Act.put, List.setIfInBounds_toArray, List.set_cons_zero, List.set_cons_succ, i64_w, i32_w]
            rfl
          refine take_ (i := 7) (N := some 31) (v := ?_) (a' := ?_) #[t_, t_, t_, t_, t_, t_, t_, t_, f_, f_] rfl rfl (take_ofW HT_.out HW_.out (by kernel_rfl)) (fun _ _ _ h => h) (Or.inl ⟨by rfl, ?_⟩) hHeld ?_ ?_
          rotate_left
          · rintro w' ⟨s0, s1, s2, s3, s4, s5⟩
            go_simp
            with_reducible rfl
          rotate_left
          · simp only [Act.put, List.setIfInBounds_toArray, List.set_cons_zero, List.set_cons_succ, i64_w, i32_w]
            rfl
          refine one_ (i := 8) (N := some 32) #[t_, t_, t_, t_, t_, t_, t_, t_, t_, f_] rfl rfl (one_of HT_.out (by kernel_rfl)) (by decide) (fun K hK => ?_)
          refine goes_ Try.func68 (by kernel_rfl) rfl #[.agg #[.int .i64 ((rd_DF F x6_1).1), .int .i64 ((rd_DF F x6_1).2.1), .slice A172_2 ((rd_DF F x6_1).2.2.2) c172_2], .agg #[.int .i64 ((rd_DF F x6_1).1), .int .i64 ((rd_DF F x6_1).2.1), .slice A173_2 ((rd_DF F x6_1).2.2.2) c173_2]] (by rfl) rfl rfl (by (try simp only [List.map_toArray, List.map_cons, List.map_nil]); first | done | rfl | (simp only [List.length_drop, List.length_take]; rfl)) ?_
          refine (intD_calls ((rd_DF F x6_1).1) ((rd_DF F x6_1).2.1) _ _ _ _ ((rd_DF F x6_1).2.2.1) ((rd_DF F x6_1).2.2.2) _ ?side1 ?side2 ?side3 ?side4 HEi.out).mono ?_
          (case side1 => repeat (first | exact (Kd.C_below HR172_2.out HB.out) | (with_reducible refine Kd.C_alloc ?_ _) | (with_reducible refine Kd.C_drewN ?_ _) | (with_reducible refine Kd.C_drew ?_)))
          (case side2 => exact HC172_2.out)
          (case side3 => repeat (first | exact (Kd.C_below HR173_2.out HB.out) | (with_reducible refine Kd.C_alloc ?_ _) | (with_reducible refine Kd.C_drewN ?_ _) | (with_reducible refine Kd.C_drew ?_)))
          (case side4 => exact HC173_2.out)
          rintro e w11 ⟨rfl, hb⟩
          refine ⟨_, rfl, ?_⟩
          have n0_ := Aside0.mk (below_step (by repeat (first | (with_reducible first | exact HB.out | apply below_alloc | apply pw_below_drewN | apply below_drew1) | exact HB.out)) hb)
          clear HB
          have HB := n0_
          clear n0_
          (try clear hb)
          (try clear hb2)
          (try clear hk)
          (try clear hi)
          refine hK.out _ _ ⟨((HB.out.cell (World.block_lt_of_cell? w _ hw172_0)).trans hw172_0), ((HB.out.cell (World.block_lt_of_cell? w _ hw172_1)).trans hw172_1), ((HB.out.cell (World.block_lt_of_cell? w _ hw172_2)).trans hw172_2), ((HB.out.cell (World.block_lt_of_cell? w _ hw173_0)).trans hw173_0), ((HB.out.cell (World.block_lt_of_cell? w _ hw173_1)).trans hw173_1), ((HB.out.cell (World.block_lt_of_cell? w _ hw173_2)).trans hw173_2)⟩ (fun hHeld => ?_)
          clear hK K
          refine norm_ (a' := ?_) ?_ ?_
          rotate_left
          · show Act.put _ (some 32) _ = _
            simp only [Act.put, List.setIfInBounds_toArray, List.set_cons_zero, List.set_cons_succ, i64_w, i32_w]
            rfl
          refine pure_ (i := 9) (N := some 33) (v := ?_) (a' := ?_) #[t_, t_, t_, t_, t_, t_, t_, t_, t_, t_] rfl rfl (any_of HT_.out (by kernel_rfl)) (fun _ _ _ h => h) (Or.inl ⟨by rfl, ?_⟩) ?_ ?_
          rotate_left
          · intro w'
            go_simp
            with_reducible rfl
          rotate_left
          · simp only [Act.put, List.setIfInBounds_toArray, List.set_cons_zero, List.set_cons_succ, i64_w, i32_w]
            rfl
          refine done_ (done_of HT_.out (by kernel_rfl)) ?_
          try go_wp2
          have x0 := HX.out
          have c5 := HX2.out
          have hg := HG.out
          have nb := HNb.out
          have hw : wrap64 (x6_1 + 1) = x6_1 + 1 := by unfold wrap64; omega
          go_roundg (n - (x6_1.toNat + 1))
          case measure => omega
          case rel => exact ⟨(wrap64 (x6_1 + 1)), (by first | rfl | (simp; done) | (simp [*]; done)), by rw [hw]; omega, by rw [hw]; omega, by rw [hw]; omega, ⟨by repeat (first | (with_reducible first | exact HB.out | apply below_alloc | apply pw_below_drewN | apply below_drew1) | exact HB.out)⟩⟩
    · obtain rfl : x6_1 = (n : Int) := by omega
      have c5b0 : decide ((n : Int) < (n : Int)) = false := decide_eq_false (by omega)
      have nl := HNl.out
      obtain ⟨i0, hi0, _, hsz, _⟩ := info_parts info39
      have hcut0 := up_mid (P := Try.prog) 25 39 .i64 .i64 Try.underlying25 hi0 3 hsz A0 n c0 (n : Int) (F.length : Int) (by omega) (by omega) (by have := HC0.out; omega)
      have hcut1 := up_mid (P := Try.prog) 25 39 .i64 .i64 Try.underlying25 hi0 3 hsz A1 n c1 (n : Int) (F.length : Int) (by omega) (by omega) (by have := HC1.out; omega)
      simp only [Int.toNat_natCast] at hcut0 hcut1
      have hYl : Y.length = F.length - n := by rw [← HYe.out]; simp
      obtain ⟨AY0, hA0⟩ : ∃ A, A = (if c0 = n then A0 else A0.map (·.add (n * 3))) := ⟨_, rfl⟩
      obtain ⟨AY1, hA1⟩ : ∃ A, A = (if c1 = n then A1 else A1.map (·.add (n * 3))) := ⟨_, rfl⟩
      obtain ⟨CY0, hC0⟩ : ∃ c, c = c0 - n := ⟨_, rfl⟩
      obtain ⟨CY1, hC1⟩ : ∃ c, c = c1 - n := ⟨_, rfl⟩
      have HY0 : Aside0 (Kd.C k39 w AY0 Y.length Y) := ⟨by rw [hA0, ← HYe.out]; exact C_plD (Kd.C_drop HR0.out nl HC0.out)⟩
      have HY1 : Aside0 (Kd.C k39 w AY1 Y.length Y) := ⟨by rw [hA1, ← HYe.out]; exact C_plD (Kd.C_drop HR1.out nl HC1.out)⟩
      have HCY0 : Aside0 (Y.length ≤ CY0) := ⟨by have := HC0.out; omega⟩
      have HCY1 : Aside0 (Y.length ≤ CY1) := ⟨by have := HC1.out; omega⟩
      rw [← hYl, ← hA0, ← hC0] at hcut0
      rw [← hYl, ← hA1, ← hC1] at hcut1
      clear hYl hA0 hA1 hC0 hC1 hi0 hsz nl hg xn x0
      · ·
          try go_wp2
          have n0_ := Aside0.mk (below_drew1 HB.out)
          clear HB
          have HB := n0_
          clear n0_
          refine start_ (n := 12) (S := fun w' => True) (ds := []) #[f_, f_, f_, f_, f_, f_, f_, f_, f_, f_, f_, f_] (by kernel_rfl) rfl rfl trivial (fun hHeld => ?_); refine with_tabW intDS_calls_tab9 intDS_calls_bits9 (fun HT_ HW_ => ?_)
          generalize wr.drew = w21 at HB hHeld ⊢
          refine pure_ (i := 0) (N := some 34) (v := ?_) (a' := ?_) #[t_, f_, f_, f_, f_, f_, f_, f_, f_, f_, f_, f_] rfl rfl (any_of HT_.out (by kernel_rfl)) (fun _ _ _ h => h) (Or.inl ⟨by rfl, ?_⟩) ?_ ?_
          rotate_left
          · intro w'
            go_simp
            with_reducible rfl
          rotate_left
          · simp only [Act.put, List.setIfInBounds_toArray, List.set_cons_zero, List.set_cons_succ, i64_w, i32_w]
            rfl
          refine pure_ (i := 1) (N := some 35) (v := ?_) (a' := ?_) #[t_, t_, f_, f_, f_, f_, f_, f_, f_, f_, f_, f_] rfl rfl (any_of HT_.out (by kernel_rfl)) (fun _ _ _ h => h) (Or.inl ⟨by rfl, ?_⟩) ?_ ?_
          rotate_left
          · intro w'
            go_simp
            with_reducible rfl
          rotate_left
          · simp only [Act.put, List.setIfInBounds_toArray, List.set_cons_zero, List.set_cons_succ, i64_w, i32_w]
            rfl
          refine pure_ (i := 2) (N := some 36) (v := ?_) (a' := ?_) #[t_, t_, t_, f_, f_, f_, f_, f_, f_, f_, f_, f_] rfl rfl (any_of HT_.out (by kernel_rfl)) (fun _ _ _ h => h) (Or.inl ⟨by rfl, ?_⟩) ?_ ?_
          rotate_left
          · intro w'
            go_simp
            with_reducible rfl
          rotate_left
          · simp only [Act.put, List.setIfInBounds_toArray, List.set_cons_zero, List.set_cons_succ, i64_w, i32_w]
            rfl
          refine pure_ (i := 3) (N := some 37) (v := ?_) (a' := ?_) #[t_, t_, t_, t_, f_, f_, f_, f_, f_, f_, f_, f_] rfl rfl (any_of HT_.out (by kernel_rfl)) (fun _ _ _ h => h) (Or.inl ⟨by rfl, ?_⟩) ?_ ?_
          rotate_left
          · intro w'
            go_simp
            with_reducible rfl
          rotate_left
          · simp only [Act.put, List.setIfInBounds_toArray, List.set_cons_zero, List.set_cons_succ, i64_w, i32_w]
            rfl
          refine pure_ (i := 4) (N := some 38) (v := ?_) (a' := ?_) #[t_, t_, t_, t_, t_, f_, f_, f_, f_, f_, f_, f_] rfl rfl (any_of HT_.out (by kernel_rfl)) (fun _ _ _ h => h) (Or.inl ⟨by rfl, ?_⟩) ?_ ?_
          rotate_left
          · intro w'
            go_simp
            with_reducible rfl
          rotate_left
          · simp only [Act.put, List.setIfInBounds_toArray, List.set_cons_zero, List.set_cons_succ, i64_w, i32_w]
            rfl
          refine pure_ (i := 5) (N := some 39) (v := ?_) (a' := ?_) #[t_, t_, t_, t_, t_, t_, f_, f_, f_, f_, f_, f_] rfl rfl (any_of HT_.out (by kernel_rfl)) (fun _ _ _ h => h) (Or.inl ⟨by rfl, ?_⟩) ?_ ?_
          rotate_left
          · intro w'
            go_simp
            with_reducible rfl
          rotate_left
          · simp only [Act.put, List.setIfInBounds_toArray, List.set_cons_zero, List.set_cons_succ, i64_w, i32_w]
            rfl
          refine pure_ (i := 6) (N := some 40) (v := ?_) (a' := ?_) #[t_, t_, t_, t_, t_, t_, t_, f_, f_, f_, f_, f_] rfl rfl (any_of HT_.out (by kernel_rfl)) (fun _ _ _ h => h) (Or.inl ⟨by rfl, ?_⟩) ?_ ?_
          rotate_left
          · intro w'
            go_simp
            with_reducible rfl
          rotate_left
          · simp only [Act.put, List.setIfInBounds_toArray, List.set_cons_zero, List.set_cons_succ, i64_w, i32_w]
            rfl
          refine pure_ (i := 7) (N := some 41) (v := ?_) (a' := ?_) #[t_, t_, t_, t_, t_, t_, t_, t_, f_, f_, f_, f_] rfl rfl (any_of HT_.out (by kernel_rfl)) (fun _ _ _ h => h) (Or.inl ⟨by rfl, ?_⟩) ?_ ?_
          rotate_left
          · intro w'
            go_simp
            with_reducible rfl
          rotate_left
          · simp only [Act.put, List.setIfInBounds_toArray, List.set_cons_zero, List.set_cons_succ, i64_w, i32_w]
            rfl
          refine pure_ (i := 8) (N := some 42) (v := ?_) (a' := ?_) #[t_, t_, t_, t_, t_, t_, t_, t_, t_, f_, f_, f_] rfl rfl (any_of HT_.out (by kernel_rfl)) (fun _ _ _ h => h) (Or.inl ⟨by rfl, ?_⟩) ?_ ?_
          rotate_left
          · intro w'
            go_simp
            with_reducible rfl
          rotate_left
          · simp only [Act.put, List.setIfInBounds_toArray, List.set_cons_zero, List.set_cons_succ, i64_w, i32_w]
            rfl
          refine pure_ (i := 9) (N := some 43) (v := ?_) (a' := ?_) #[t_, t_, t_, t_, t_, t_, t_, t_, t_, t_, f_, f_] rfl rfl (any_of HT_.out (by kernel_rfl)) (fun _ _ _ h => h) (Or.inl ⟨by rfl, ?_⟩) ?_ ?_
          rotate_left
          · intro w'
            go_simp
            with_reducible rfl
          rotate_left
          · simp only [Act.put, List.setIfInBounds_toArray, List.set_cons_zero, List.set_cons_succ, i64_w, i32_w]
            rfl
          refine one_ (i := 10) (N := some 44) #[t_, t_, t_, t_, t_, t_, t_, t_, t_, t_, t_, f_] rfl rfl (one_of HT_.out (by kernel_rfl)) (by decide) (fun K hK => ?_)
          refine goes_ Try.func29 (by kernel_rfl) rfl #[.slice AY0 Y.length CY0, .slice AY1 Y.length CY1] (by rfl) rfl rfl (by (try simp only [List.map_toArray, List.map_cons, List.map_nil]); first | done | rfl | (simp only [List.length_drop, List.length_take]; rfl)) ?_
          with_reducible refine (laws_eqDeltaS.calls KQ _ _ Y _ _ Y true _ ?side1 ?side2 ?side3 ?side4 HQ.out).mono ?_
          (case side1 => repeat (first | exact (Kd.C_below HY0.out HB.out) | (with_reducible refine Kd.C_alloc ?_ _) | (with_reducible refine Kd.C_drewN ?_ _) | (with_reducible refine Kd.C_drew ?_)))
          (case side2 => exact HCY0.out)
          (case side3 => repeat (first | exact (Kd.C_below HY1.out HB.out) | (with_reducible refine Kd.C_alloc ?_ _) | (with_reducible refine Kd.C_drewN ?_ _) | (with_reducible refine Kd.C_drew ?_)))
          (case side4 => exact HCY1.out)
          rintro e w24 ⟨rfl, hb⟩
          refine ⟨_, rfl, ?_⟩
          have n0_ := Aside0.mk (below_step (by repeat (first | (with_reducible first | exact HB.out | apply below_alloc | apply pw_below_drewN | apply below_drew1) | exact HB.out)) hb)
          clear HB
          have HB := n0_
          clear n0_
          (try clear hb)
          (try clear hb2)
          (try clear hk)
          (try clear hi)
          refine hK.out _ _ trivial (fun hHeld => ?_)
          clear hK K
          refine norm_ (a' := ?_) ?_ ?_
          rotate_left
          · show Act.put _ (some 44) _ = _
            simp only [Act.put, List.setIfInBounds_toArray, List.set_cons_zero, List.set_cons_succ, i64_w, i32_w]
            rfl
          refine pure_ (i := 11) (N := some 4) (v := ?_) (a' := ?_) #[t_, t_, t_, t_, t_, t_, t_, t_, t_, t_, t_, t_] rfl rfl (any_of HT_.out (by kernel_rfl)) (fun _ _ _ h => h) (Or.inl ⟨by rfl, ?_⟩) ?_ ?_
          rotate_left
          · intro w'
            go_simp
            with_reducible rfl
          rotate_left
          · simp only [Act.put, List.setIfInBounds_toArray, List.set_cons_zero, List.set_cons_succ, i64_w, i32_w]
            rfl
          refine done_ (done_of HT_.out (by kernel_rfl)) ?_
          try go_wp2
          go_ret
          exact ⟨by first | rfl | (simp; done), by repeat (first | (with_reducible first | exact HB.out | apply below_alloc | apply pw_below_drewN | apply below_drew1) | exact HB.out)⟩
end Go.Proofs.Ytfnhjaiioojbkaa.Q
end
section
namespace Go.Proofs.Ytfnhjaiioojbkaa.Q
open Go.RowKit Go.Proofs.YtfnhjaiioojbkaaW.PrintWords Go.Proofs.YtfnhjaiioojbkaaW.PrintLast Go.Proofs.YtfnhjaiioojbkaaW.PrintMore
attribute [local go_sem] max2_int min2_int max_two min_two max_three min_three max_four min_four
set_option linter.unusedVariables false
set_option linter.unusedSimpArgs false
def toP (x : Dq) : Dl := ⟨x.f0, x.f1, x.f2⟩
theorem fulS_take (b : Bool) (l : Tx) : (fulS b l).1.take (fulS b l).2 = l := by
  unfold fulS
  split
  case isTrue h => rw [h.2]; rfl
  case isFalse h => simp
theorem fulS_ful (l : Tx) (h : l.length ≤ 1000000) : FulN (fulS false l).1.length (fulS false l).2 := by
  unfold fulS
  rw [if_neg (fun h => by cases h.1)]
  exact ⟨by simp, h⟩
theorem fulDS_len (b : Bool) (l : List Dq) : (fulDS b l).2 = l.length := by
  unfold fulDS
  split
  case isTrue h => rw [h.2]; rfl
  case isFalse h => rfl
theorem fulDS_false (l : List Dq) : fulDS false l = (l.map (toDF false) ++ List.replicate (room l.length) fillDF, l.length) := by
  unfold fulDS
  rw [if_neg (fun h => by cases h.1)]
theorem fulDS_take (b : Bool) (l : List Dq) : ((fulDS b l).1.take (fulDS b l).2).map plD = l.map toP := by
  have e : plD ∘ toDF b = toP := by funext x; show (⟨x.f0, x.f1, (fulS b x.f2).1.take (fulS b x.f2).2⟩ : Dl) = ⟨x.f0, x.f1, x.f2⟩; rw [fulS_take]
  unfold fulDS
  split
  case isTrue h => rw [h.2]; rfl
  case isFalse h => simp [e]
theorem toDSp (A0 : Option Addr) (c0 : Nat) (l0 : List Dq) (b : Bool) (w : World) (hr0 : Kd.C k72 w A0 l0.length l0) (hq : SmQ l0) (P : List Dl) (hP : l0.map toP = P) :
    Calls Try.prog 17 #[.slice A0 l0.length c0, .bool b] w fun e w' => ∃ A c, e = .returned (.slice A P.length c) ∧ P.length ≤ c ∧ Kd.C k39 w' A P.length P ∧
      (b = false → Kd.C kDF w' A (fulDS false l0).1.length (fulDS false l0).1 ∧ (fulDS false l0).1.length ≤ c) ∧ Below w.heap.size w w' :=
  (toDS_calls A0 c0 l0 b w hr0 hq.1 (fun x hx => (hq.2 x hx).1)).mono fun e w' ⟨A, c, he, hn, ho, hb⟩ => by
    subst hP
    obtain ⟨_, h1, h2⟩ := Kd.S_reads' ho
    have h3 := C_plD (Kd.C_take h2 hn)
    rw [fulDS_take] at h3
    have hl : (l0.map toP).length = (fulDS b l0).2 := by rw [List.length_map, fulDS_len]
    refine ⟨A, c, by rw [hl]; exact he, by rw [hl]; omega, h3, fun hb0 => ?_, hb⟩
    subst hb0
    exact ⟨h2, h1⟩
theorem okD_eq (l : List Dq) (hq : SmQ l) : SmD (l.map toP) := ⟨by rw [List.length_map]; exact hq.1, fun x hx => by
  obtain ⟨y, hy, rfl⟩ := List.mem_map.mp hx
  exact hq.2 y hy⟩
theorem rdDF_ful (l : List Dq) (hq : SmQ l) (i : Nat) (hi : i < l.length) : FulN (rd_DF (fulDS false l).1 i).2.2.1.length (rd_DF (fulDS false l).1 i).2.2.2 := by
  rw [fulDS_false]
  have e : rd_DF (l.map (toDF false) ++ List.replicate (room l.length) fillDF) (i : Int) = toDF false l[i] := by
    simp [rd_DF, List.getD_eq_getElem?_getD, List.getElem?_append_left, hi]
  rw [e]
  exact fulS_ful _ (hq.2 _ (List.getElem_mem hi)).1
theorem spare_ev (l : List Dq) (hq : SmQ l) : ∃ K, laws_eqDeltaS.f K (((fulDS false l).1.drop l.length).map plD) (((fulDS false l).1.drop l.length).map plD) = some true := by
  have e : (fulDS false l).1.drop l.length = List.replicate (room l.length) fillDF := by rw [fulDS_false]; simp
  rw [e]
  have := room_le l.length
  have h1 := hq.1
  obtain ⟨K, hK⟩ := eqD_refl ((List.replicate (room l.length) fillDF).map plD) (by simp; omega) (fun x hx => by
    obtain ⟨y, hy, rfl⟩ := List.mem_map.mp hx
    obtain rfl := List.eq_of_mem_replicate hy
    decide)
  exact ⟨K, hK K (Nat.le_refl _)⟩
set_option maxHeartbeats 8000000 in
set_option maxRecDepth 100000 in
theorem fnExactDeltaOk_walk (A0 : Option Addr) (c0 : Nat) (l0 : List Dq) (w : World) (hr0 : Kd.C k72 w A0 l0.length l0) (hc0 : l0.length ≤ c0) (hb : BigD l0) :
    Calls Try.prog 3 #[.slice A0 l0.length c0] w fun e w' => e = .returned (.bool true) ∧ Below w.heap.size w w' := by
  obtain ⟨z, ⟨kz, hz⟩, z1, z2, z3⟩ := szD_ev hb (a := 1000000) (by omega) (by omega)
  have HZ := Aside0.mk (hz kz (Nat.le_refl _))
  have HR0 := Aside0.mk hr0
  have HC0 := Aside0.mk hc0
  clear hz hr0 hc0 hb
  have HB := Aside0.mk (Below.refl w.heap.size w)
  by_cases c : z < 0
  · have cb : decide (z < 0) = true := decide_eq_true c
    clear c z1 z2 z3
    go_enter Try.func3, Try.ntmps3
    go_wp2_with (first | (go_at_call 15; (refine (laws_szDeltaS.calls kz _ _ l0 1000000 z _ ?side1 HC0.out HZ.out).mono ?_); (case side1 => repeat (first | exact HR0.out | (with_reducible refine Kd.C_alloc ?_ _) | (with_reducible refine Kd.C_drewN ?_ _) | (with_reducible refine Kd.C_drew ?_))); rintro e w1 ⟨rfl, hb⟩; have n0_ := Aside0.mk (below_step (by repeat (first | (with_reducible first | exact HB.out | apply below_alloc | apply pw_below_drewN | apply below_drew1) | exact HB.out)) hb); clear HB hb; have HB := n0_; clear n0_))
    go_ret
    exact ⟨rfl, HB.out⟩
  · have cb : decide (z < 0) = false := decide_eq_false c
    have hq := z3 (by omega)
    have HQ := Aside0.mk hq
    have hS := okD_eq l0 hq
    obtain ⟨P, hP⟩ : ∃ P, l0.map toP = P := ⟨_, rfl⟩
    rw [hP] at hS
    have hlen : P.length = l0.length := by rw [← hP]; simp
    have HPe := Aside0.mk hP
    clear hP
    obtain ⟨k1, h1⟩ := specDeltaOk_ev _ hS
    obtain ⟨k2, h2⟩ := implOk_ev _ hS
    have H1 := Aside0.mk (h1 k1 (Nat.le_refl _))
    have H2 := Aside0.mk (h2 k2 (Nat.le_refl _))
    generalize deltaB P = b at H1 H2
    clear h1 h2 hS hq c z1 z2 z3
    have e1 : (b != b) = false := by simp
    have HN := Aside0.mk (show FulN (fulDS false l0).1.length P.length by
      rw [fulDS_false, hlen]
      exact ⟨by simp, HQ.out.1⟩)
    have HE := Aside0.mk (show ∀ i : Nat, i < P.length → FulN (rd_DF (fulDS false l0).1 i).2.2.1.length (rd_DF (fulDS false l0).1 i).2.2.2 from fun i hi => rdDF_ful l0 HQ.out i (by rw [← hlen]; exact hi))
    have HP := Aside0.mk (show ∃ K, laws_eqDeltaS.f K (((fulDS false l0).1.drop P.length).map plD) (((fulDS false l0).1.drop P.length).map plD) = some true by rw [hlen]; exact spare_ev l0 HQ.out)
    clear hlen
    go_enter Try.func3, Try.ntmps3
    go_wp2_with (first | ((with_reducible refine gate_callee (f := 15) rfl ?_); refine goesL_ (some 10) rfl rfl Try.func15 (by kernel_rfl) rfl #[.slice A0 l0.length c0, .int .i64 1000000] rfl (by (try simp only [List.map_toArray, List.map_cons, List.map_nil]); first | done | rfl) ?_; (refine (laws_szDeltaS.calls kz _ _ l0 1000000 z _ (by repeat (first | (with_reducible exact HR0.out) | (with_reducible refine Kd.C_alloc ?_ _) | (with_reducible refine Kd.C_drewN ?_ _) | (with_reducible refine Kd.C_drew ?_) | exact HR0.out)) HC0.out HZ.out).mono ?_); rintro e w1 ⟨rfl, hb⟩; refine ⟨_, rfl, ?_⟩; have nb_ := Aside0.mk (below_step (by repeat (first | (with_reducible first | exact HB.out | apply below_alloc | apply pw_below_drewN | apply below_drew1) | exact HB.out)) hb); have nHR0_ := Aside0.mk (Kd.C_below (by repeat (first | (with_reducible exact HR0.out) | (with_reducible refine Kd.C_alloc ?_ _) | (with_reducible refine Kd.C_drewN ?_ _) | (with_reducible refine Kd.C_drew ?_) | exact HR0.out)) hb); clear HB hb; have HB := nb_; clear nb_; clear HR0; have HR0 := nHR0_; clear nHR0_) | ((with_reducible refine gate_callee (f := 17) rfl ?_); refine goesL_ (some 14) rfl rfl Try.func17 (by kernel_rfl) rfl #[.slice A0 l0.length c0, .bool false] rfl (by (try simp only [List.map_toArray, List.map_cons, List.map_nil]); first | done | rfl) ?_; (refine (toDSp A0 c0 l0 false _ (by repeat (first | (with_reducible exact HR0.out) | (with_reducible refine Kd.C_alloc ?_ _) | (with_reducible refine Kd.C_drewN ?_ _) | (with_reducible refine Kd.C_drew ?_) | exact HR0.out)) HQ.out P HPe.out).mono ?_); rintro e w1 ⟨A1, c1, rfl, hl_, hc_, hf_, hb⟩; refine ⟨_, rfl, ?_⟩; have nb_ := Aside0.mk (below_step (by repeat (first | (with_reducible first | exact HB.out | apply below_alloc | apply pw_below_drewN | apply below_drew1) | exact HB.out)) hb); have nHR0_ := Aside0.mk (Kd.C_below (by repeat (first | (with_reducible exact HR0.out) | (with_reducible refine Kd.C_alloc ?_ _) | (with_reducible refine Kd.C_drewN ?_ _) | (with_reducible refine Kd.C_drew ?_) | exact HR0.out)) hb); have L1 := Aside0.mk hl_; have C1 := Aside0.mk hc_; clear HB hb; have HB := nb_; clear nb_; clear HR0; have HR0 := nHR0_; clear nHR0_) | ((with_reducible refine gate_callee (f := 16) rfl ?_); refine goesL_ (some 15) rfl rfl Try.func16 (by kernel_rfl) rfl #[.slice A1 P.length c1] rfl (by (try simp only [List.map_toArray, List.map_cons, List.map_nil]); first | done | rfl) ?_; (refine (spec_DeltaOk.calls k1 _ _ P b _ (by repeat (first | (with_reducible exact C1.out) | (with_reducible refine Kd.C_alloc ?_ _) | (with_reducible refine Kd.C_drewN ?_ _) | (with_reducible refine Kd.C_drew ?_) | exact C1.out)) L1.out H1.out).mono ?_); rintro e w1 ⟨rfl, hb⟩; refine ⟨_, rfl, ?_⟩; have nb_ := Aside0.mk (below_step (by repeat (first | (with_reducible first | exact HB.out | apply below_alloc | apply pw_below_drewN | apply below_drew1) | exact HB.out)) hb); have nHR0_ := Aside0.mk (Kd.C_below (by repeat (first | (with_reducible exact HR0.out) | (with_reducible refine Kd.C_alloc ?_ _) | (with_reducible refine Kd.C_drewN ?_ _) | (with_reducible refine Kd.C_drew ?_) | exact HR0.out)) hb); clear HB hb; have HB := nb_; clear nb_; clear HR0; have HR0 := nHR0_; clear nHR0_) | ((with_reducible refine gate_callee (f := 17) rfl ?_); refine goesL_ (some 17) rfl rfl Try.func17 (by kernel_rfl) rfl #[.slice A0 l0.length c0, .bool false] rfl (by (try simp only [List.map_toArray, List.map_cons, List.map_nil]); first | done | rfl) ?_; (refine (toDSp A0 c0 l0 false _ (by repeat (first | (with_reducible exact HR0.out) | (with_reducible refine Kd.C_alloc ?_ _) | (with_reducible refine Kd.C_drewN ?_ _) | (with_reducible refine Kd.C_drew ?_) | exact HR0.out)) HQ.out P HPe.out).mono ?_); rintro e w1 ⟨A2, c2, rfl, hl_, hc_, hf_, hb⟩; refine ⟨_, rfl, ?_⟩; have nb_ := Aside0.mk (below_step (by repeat (first | (with_reducible first | exact HB.out | apply below_alloc | apply pw_below_drewN | apply below_drew1) | exact HB.out)) hb); have nHR0_ := Aside0.mk (Kd.C_below (by repeat (first | (with_reducible exact HR0.out) | (with_reducible refine Kd.C_alloc ?_ _) | (with_reducible refine Kd.C_drewN ?_ _) | (with_reducible refine Kd.C_drew ?_) | exact HR0.out)) hb); have L2 := Aside0.mk hl_; have C2 := Aside0.mk hc_; have F2 := Aside0.mk (hf_ rfl).1; have G2 := Aside0.mk (hf_ rfl).2; clear HB hb; have HB := nb_; clear nb_; clear HR0; have HR0 := nHR0_; clear nHR0_) | ((with_reducible refine gate_callee (f := 18) rfl ?_); refine goesL_ (some 19) rfl rfl Try.func18 (by kernel_rfl) rfl #[.slice A2 P.length c2] rfl (by (try simp only [List.map_toArray, List.map_cons, List.map_nil]); first | done | rfl) ?_; (refine (impl_DeltaOk.calls k2 _ _ P b _ (by repeat (first | (with_reducible exact C2.out) | (with_reducible refine Kd.C_alloc ?_ _) | (with_reducible refine Kd.C_drewN ?_ _) | (with_reducible refine Kd.C_drew ?_) | exact C2.out)) L2.out H2.out).mono ?_); rintro e w1 ⟨rfl, hb⟩; refine ⟨_, rfl, ?_⟩; have nb_ := Aside0.mk (below_step (by repeat (first | (with_reducible first | exact HB.out | apply below_alloc | apply pw_below_drewN | apply below_drew1) | exact HB.out)) hb); have nHR0_ := Aside0.mk (Kd.C_below (by repeat (first | (with_reducible exact HR0.out) | (with_reducible refine Kd.C_alloc ?_ _) | (with_reducible refine Kd.C_drewN ?_ _) | (with_reducible refine Kd.C_drew ?_) | exact HR0.out)) hb); have nF2_ := Aside0.mk (Kd.C_below (by repeat (first | (with_reducible exact F2.out) | (with_reducible refine Kd.C_alloc ?_ _) | (with_reducible refine Kd.C_drewN ?_ _) | (with_reducible refine Kd.C_drew ?_) | exact F2.out)) hb); clear HB hb; have HB := nb_; clear nb_; clear HR0; have HR0 := nHR0_; clear nHR0_; clear F2; have F2 := nF2_; clear nF2_) | ((with_reducible refine gate_callee (f := 17) rfl ?_); refine goesL_ (some 25) rfl rfl Try.func17 (by kernel_rfl) rfl #[.slice A0 l0.length c0, .bool false] rfl (by (try simp only [List.map_toArray, List.map_cons, List.map_nil]); first | done | rfl) ?_; (refine (toDSp A0 c0 l0 false _ (by repeat (first | (with_reducible exact HR0.out) | (with_reducible refine Kd.C_alloc ?_ _) | (with_reducible refine Kd.C_drewN ?_ _) | (with_reducible refine Kd.C_drew ?_) | exact HR0.out)) HQ.out P HPe.out).mono ?_); rintro e w1 ⟨A3, c3, rfl, hl_, hc_, hf_, hb⟩; refine ⟨_, rfl, ?_⟩; have nb_ := Aside0.mk (below_step (by repeat (first | (with_reducible first | exact HB.out | apply below_alloc | apply pw_below_drewN | apply below_drew1) | exact HB.out)) hb); have nHR0_ := Aside0.mk (Kd.C_below (by repeat (first | (with_reducible exact HR0.out) | (with_reducible refine Kd.C_alloc ?_ _) | (with_reducible refine Kd.C_drewN ?_ _) | (with_reducible refine Kd.C_drew ?_) | exact HR0.out)) hb); have nF2_ := Aside0.mk (Kd.C_below (by repeat (first | (with_reducible exact F2.out) | (with_reducible refine Kd.C_alloc ?_ _) | (with_reducible refine Kd.C_drewN ?_ _) | (with_reducible refine Kd.C_drew ?_) | exact F2.out)) hb); have L3 := Aside0.mk hl_; have C3 := Aside0.mk hc_; have F3 := Aside0.mk (hf_ rfl).1; have G3 := Aside0.mk (hf_ rfl).2; clear HB hb; have HB := nb_; clear nb_; clear HR0; have HR0 := nHR0_; clear nHR0_; clear F2; have F2 := nF2_; clear nF2_) | ((with_reducible refine gate_callee (f := 19) rfl ?_); refine goesL_ (some 26) rfl rfl Try.func19 (by kernel_rfl) rfl #[.slice A2 P.length c2, .slice A3 P.length c3] rfl (by (try simp only [List.map_toArray, List.map_cons, List.map_nil]); first | done | rfl) ?_; (refine (intDS_calls A2 A3 c2 c3 (fulDS false l0).1 P.length _ (by repeat (first | (with_reducible exact F2.out) | (with_reducible refine Kd.C_alloc ?_ _) | (with_reducible refine Kd.C_drewN ?_ _) | (with_reducible refine Kd.C_drew ?_) | exact F2.out)) G2.out (by repeat (first | (with_reducible exact F3.out) | (with_reducible refine Kd.C_alloc ?_ _) | (with_reducible refine Kd.C_drewN ?_ _) | (with_reducible refine Kd.C_drew ?_) | exact F3.out)) G3.out HN.out HE.out HP.out).mono ?_); rintro e w1 ⟨rfl, hb⟩; refine ⟨_, rfl, ?_⟩; have nb_ := Aside0.mk (below_step (by repeat (first | (with_reducible first | exact HB.out | apply below_alloc | apply pw_below_drewN | apply below_drew1) | exact HB.out)) hb); have nHR0_ := Aside0.mk (Kd.C_below (by repeat (first | (with_reducible exact HR0.out) | (with_reducible refine Kd.C_alloc ?_ _) | (with_reducible refine Kd.C_drewN ?_ _) | (with_reducible refine Kd.C_drew ?_) | exact HR0.out)) hb); clear HB hb; have HB := nb_; clear nb_; clear HR0; have HR0 := nHR0_; clear nHR0_) | ((with_reducible refine gate_callee (f := 17) rfl ?_); refine goesL_ (some 29) rfl rfl Try.func17 (by kernel_rfl) rfl #[.slice A0 l0.length c0, .bool true] rfl (by (try simp only [List.map_toArray, List.map_cons, List.map_nil]); first | done | rfl) ?_; (refine (toDSp A0 c0 l0 true _ (by repeat (first | (with_reducible exact HR0.out) | (with_reducible refine Kd.C_alloc ?_ _) | (with_reducible refine Kd.C_drewN ?_ _) | (with_reducible refine Kd.C_drew ?_) | exact HR0.out)) HQ.out P HPe.out).mono ?_); rintro e w1 ⟨A4, c4, rfl, hl_, hc_, hf_, hb⟩; refine ⟨_, rfl, ?_⟩; have nb_ := Aside0.mk (below_step (by repeat (first | (with_reducible first | exact HB.out | apply below_alloc | apply pw_below_drewN | apply below_drew1) | exact HB.out)) hb); have nHR0_ := Aside0.mk (Kd.C_below (by repeat (first | (with_reducible exact HR0.out) | (with_reducible refine Kd.C_alloc ?_ _) | (with_reducible refine Kd.C_drewN ?_ _) | (with_reducible refine Kd.C_drew ?_) | exact HR0.out)) hb); have L4 := Aside0.mk hl_; have C4 := Aside0.mk hc_; clear HB hb; have HB := nb_; clear nb_; clear HR0; have HR0 := nHR0_; clear nHR0_) | ((with_reducible refine gate_callee (f := 18) rfl ?_); refine goesL_ (some 30) rfl rfl Try.func18 (by kernel_rfl) rfl #[.slice A4 P.length c4] rfl (by (try simp only [List.map_toArray, List.map_cons, List.map_nil]); first | done | rfl) ?_; (refine (impl_DeltaOk.calls k2 _ _ P b _ (by repeat (first | (with_reducible exact C4.out) | (with_reducible refine Kd.C_alloc ?_ _) | (with_reducible refine Kd.C_drewN ?_ _) | (with_reducible refine Kd.C_drew ?_) | exact C4.out)) L4.out H2.out).mono ?_); rintro e w1 ⟨rfl, hb⟩; refine ⟨_, rfl, ?_⟩; have nb_ := Aside0.mk (below_step (by repeat (first | (with_reducible first | exact HB.out | apply below_alloc | apply pw_below_drewN | apply below_drew1) | exact HB.out)) hb); clear HB hb; have HB := nb_; clear nb_))
    go_ret
    exact ⟨rfl, HB.out⟩
end Go.Proofs.Ytfnhjaiioojbkaa.Q
end
section
/- FnExactDeltaOk: for every argument the law returns true, and its arguments read behind the call as they read before. No conditions. -/
namespace Go.Proofs.Ytfnhjaiioojbkaa.fnExactDeltaOk
open Go.ChangeShapes Go.WideShapes Go.ChangeAt Go.RowKit
set_option linter.unusedVariables false
theorem own : ownKnob Try.prog.godebug = none := by kernel_rfl
theorem laidOut : laidOutB Try.prog = true := by kernel_rfl
set_option maxRecDepth 100000 in
theorem lifted (os : Os) (started : os.Started) (H : Type) (enc : TypeId × Value → H) :
    ReturnsInHanded {} Try.checked os 3 .any (Rows.fnExactDeltaOkSpec.pre6 enc Try.prog Try.f3 Rows.fnExactDeltaOkRow.domain false) (Rows.fnExactDeltaOkSpec.post enc Try.prog Try.f3 false true false false) := by
  refine returnsInHanded_of_change_sized (C := Try.checked) own started (by kernel_rfl) Try.func3
    (ChangeSpec.witness6 (enc := enc) (C := Try.checked) false ⟨#[], #[.slice none 0 0], []⟩ 3 (by kernel_rfl) (by kernel_rfl) (by kernel_rfl) (by kernel_rfl)) ?_
  intro W base args ds gs before hval0 hW hcnd hsz0 _
  have hval : ∀ (j : Nat) t v, Try.f3.params[j]? = some t → args[j]? = some v → Value.okWide Try.prog W .any base t v := hval0
  have hW' := hW
  obtain ⟨p, q, hA0, hV, rfl, hfz, hnd⟩ := hW
  have hA : DataW.TrodAll enc Try.prog W 0 (fun _ => true) true Try.f3.params.toList args.toList ds p := hA0
  rw [Try.params3] at hA hval
  obtain ⟨v0, vs0, d0, ds0, p0, q0, hargs, rfl, rfl, h0, r0⟩ := trodAll_cons hA
  obtain ⟨rfl, rfl, rfl⟩ := trodAll_nil r0
  obtain rfl : args = #[v0] := by cases args; simp_all
  obtain ⟨rfl, rfl⟩ := trodVars_none hV
  obtain ⟨a0, len0, cap0, rfl⟩ := okWide_slice Try.underlying22 (hval 0 22 v0 rfl rfl)
  have k0 := h0
  have lt0 : ∀ x ∈ p0, x.block < W.heap.size := by obtain ⟨m, hm⟩ := k0; exact DataW.trod_lt m _ _ _ hm
  obtain ⟨l0, e0, hc0, hr0, hb0⟩ := Q.opened Q.opens_DS h0
  subst e0
  clear hA0 hval0 hsz0
  refine (Q.fnExactDeltaOk_walk a0 cap0 l0 W hr0 hc0 hb0).mono fun e W' ⟨he, bel⟩ => ?_
  subst he
  exact ⟨_, rfl, _, _, _, [], _, [], hW', trodAll_mk1 (shut_bool Try.underlying4 _), (trodAll_cons_mk (Below.trod laidOut (by kernel_rfl) (of_decide_eq_true (by kernel_rfl)) k0 bel lt0) trodAll_mk0), rfl, bel.frame _, fun h => by cases h⟩
theorem over : Rows.fnExactDeltaOkRow.holds Try.pinned (OpenSpec.ofChange Rows.fnExactDeltaOkSpec) :=
  OpenClaim.holds_of_wide 3 Try.f3 rfl rfl rfl rfl rfl rfl rfl ⟨rfl, rfl, rfl, rfl, rfl⟩ rfl rfl rfl rfl rfl (by kernel_rfl) Try.func3 (by kernel_rfl)
    (of_decide_eq_true (by kernel_rfl)) (by unfold Func.isWrapper; first | (rw [if_pos (by decide +kernel)]; kernel_rfl) | (rw [if_neg (by decide +kernel)]; exact ⟨rfl, rfl⟩))
    (fun os started H enc _ => lifted os started H enc)
theorem proved : Rows.FnExactDeltaOkSaid := over
#print axioms proved
end Go.Proofs.Ytfnhjaiioojbkaa.fnExactDeltaOk
namespace Go.Proofs.Ytfnhjaiioojbkaa
/-- The row, under a short name, for the claim. -/
theorem fnExactDeltaOk_holds : Rows.FnExactDeltaOkSaid := fnExactDeltaOk.proved
end Go.Proofs.Ytfnhjaiioojbkaa
end
