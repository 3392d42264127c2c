/- FnExactPackOk: for every argument the law returns true, and its arguments read behind the call as they read before. No conditions. -/
import Derived.Shelf.Abstract
import Derived.Test.YtfnhjaiioojbkaaRows
import Derived.WalkKit
import Derived.ProofKit
import Derived.OpenShut
import Derived.ShutString
import Derived.ChangeOld
import Derived.Below
import Derived.SizedLaws
import Derived.Test.YtfnhjaiioojbkaaMExactPackOk2
import Derived.Test.YtfnhjaiioojbkaaMExactPackOk3
set_option linter.unusedVariables false
set_option linter.unusedSimpArgs false
section
namespace Go.Proofs.Ytfnhjaiioojbkaa.Q
open Go.RowKit Go.Proofs.YtfnhjaiioojbkaaW.PrintWords
set_option linter.unusedVariables false
set_option linter.unusedSimpArgs false
abbrev Pq := S97
theorem rdPq {l : List Pq} {i : Nat} (h : i < l.length) : rd_T97 l (i : Int) = l[i] := by simp [rd_T97, List.getD_eq_getElem?_getD, h]
def BigP (l : List Pq) : Prop := l.length ≤ 9223372036854775807 ∧ ∀ x ∈ l, BigD x.f1
def SmP (l : List Pq) : Prop := l.length ≤ 1000000 ∧ ∀ x ∈ l, SmQ x.f1
theorem szP0_ev {l : List Pq} (h : BigP l) (hl : l.length ≤ 1000000) : ∀ (d i : Nat) (a : Int), l.length - i = d → i ≤ l.length → 0 ≤ a → a ≤ 1000000 →
    ∃ r, Ev (fun k => laws_szPackedS.l0 k l a i) r ∧ -1 ≤ r ∧ r ≤ 1000000 ∧ (0 ≤ r → ∀ j (hj : j < l.length), i ≤ j → SmQ l[j].f1)
  | 0, i, a, hd, hi, h0, h1 => by
    refine ⟨a, Ev.step' ?_, by omega, h1, fun _ j hj hij => absurd hj (by omega)⟩
    simp only [laws_szPackedS.l0]
    exact Ev.negf (by omega) (Ev.now _)
  | d + 1, i, a, hd, hi, h0, h1 => by
    have hi' : i < l.length := by omega
    obtain ⟨z, hz, z1, z2, z3⟩ := szD_ev (h.2 l[i] (List.getElem_mem hi')) h0 h1
    by_cases c : z < 0
    · refine ⟨-1, Ev.step' ?_, by omega, by omega, fun hr => absurd hr (by omega)⟩
      simp only [laws_szPackedS.l0, rdPq hi']
      refine Ev.posf (by omega) (Ev.posf (by omega) (Ev.bind (a := -1) ?_ (Ev.posf (by omega) (Ev.now _))))
      unfold laws_szPacked.f
      exact Ev.bind hz (Ev.posf c (Ev.now _))
    · obtain ⟨r, hr, r1, r2, r3⟩ := szP0_ev h hl d (i + 1) z (by omega) (by omega) (by omega) (by omega)
      refine ⟨r, Ev.step' ?_, r1, r2, fun h0r j hj hij => ?_⟩
      · simp only [laws_szPackedS.l0, rdPq hi', w64_succ i (by omega)]
        refine Ev.posf (by omega) (Ev.posf (by omega) (Ev.bind (a := z) ?_ (Ev.negf c hr)))
        unfold laws_szPacked.f
        exact Ev.bind hz (Ev.negf c (Ev.now _))
      · by_cases e : j = i
        · subst e; exact z3 (by omega)
        · exact r3 h0r j hj (by omega)
theorem szP_ev {l : List Pq} (h : BigP l) {a : Int} (h0 : 0 ≤ a) (h1 : a ≤ 1000000) : ∃ r, Ev (fun k => laws_szPackedS.f k l a) r ∧ -1 ≤ r ∧ r ≤ 1000000 ∧ (0 ≤ r → SmP l) := by
  have hb := h.1
  have hw : wrap64 (a - (l.length : Int)) = a - (l.length : Int) := w64 (by omega) (by omega)
  unfold laws_szPackedS.f
  by_cases c : a - (l.length : Int) < 0
  · exact ⟨-1, Ev.posf (by rw [hw]; exact c) (Ev.now _), by omega, by omega, fun hr => absurd hr (by omega)⟩
  · obtain ⟨r, hr, r1, r2, r3⟩ := szP0_ev h (by omega) _ 0 (a - (l.length : Int)) rfl (by omega) (by omega) (by omega)
    refine ⟨r, Ev.negf (by rw [hw]; exact c) (by rw [hw]; exact hr), r1, r2, fun h0r => ⟨by omega, fun x hx => ?_⟩⟩
    obtain ⟨j, hj, rfl⟩ := List.mem_iff_getElem.mp hx
    exact r3 h0r j hj (by omega)
theorem rdPk {l : List Pk} {i : Nat} (h : i < l.length) : rd_T53 l (i : Int) = l[i] := by simp [rd_T53, List.getD_eq_getElem?_getD, h]
theorem eqP0_refl (l : List Pk) (hl : l.length ≤ 100000000) (hx : ∀ x ∈ l, x.f1.length ≤ 100000000 ∧ ∀ y ∈ x.f1, y.f2.length ≤ 100000000) : ∀ (d i : Nat), l.length - i = d → i ≤ l.length → Ev (fun k => laws_eqPackedS.l0 k l l i) true
  | 0, i, hd, hi => by
    refine Ev.step' ?_
    simp only [laws_eqPackedS.l0]
    exact Ev.negf (by omega) (Ev.now _)
  | d + 1, i, hd, hi => by
    have hi' : i < l.length := by omega
    have h2 := hx _ (List.getElem_mem hi')
    refine Ev.step' ?_
    simp only [laws_eqPackedS.l0, w64_succ i (by omega), rdPk hi']
    refine Ev.posf (by omega) (Ev.posf (by omega) (Ev.posf (by omega) (Ev.bind (a := true) ?_ (Ev.posf rfl (eqP0_refl l hl hx d (i + 1) (by omega) (by omega))))))
    unfold laws_eqPacked.f
    exact Ev.posf rfl (Ev.bind (eqD_refl _ h2.1 h2.2) (Ev.posf rfl (Ev.now _)))
theorem eqP_refl (l : List Pk) (hl : l.length ≤ 100000000) (hx : ∀ x ∈ l, x.f1.length ≤ 100000000 ∧ ∀ y ∈ x.f1, y.f2.length ≤ 100000000) : Ev (fun k => laws_eqPackedS.f k l l) true := by
  unfold laws_eqPackedS.f
  exact Ev.posf rfl (eqP0_refl l hl hx _ 0 rfl (by omega))
section
variable {H : Type} {enc : TypeId × Value → H} {w : World} {base : Nat} {spare : Nat → Bool} {held : Bool}
set_option maxRecDepth 100000 in
theorem opens_P : Opens enc Try.prog w base spare held 97 k97 (fun x => BigD x.f1) := fun fuel cs x h => by
  obtain ⟨y0, y1, n, _, hl, h0, h1⟩ := Go.ChangeShapes.trod_struct2 Try.underlying97 h
  have hl3 : cs.length = 2 := hl.trans (by kernel_rfl)
  obtain ⟨c0, c1, rfl⟩ : ∃ c0 c1, cs = [c0, c1] := by match cs, hl3 with | [a, b], _ => exact ⟨a, b, rfl⟩
  obtain ⟨a0, k0, _⟩ := opens_int Try.underlying3 _ _ _ h0
  obtain ⟨a1, k1, g1⟩ := opens_DS _ _ _ h1
  exact ⟨⟨a0, a1⟩, ⟨[c0], [c1], rfl, k0, k1⟩, g1⟩
set_option maxRecDepth 100000 in
theorem opens_PS : Opens enc Try.prog w base spare held 61 (Kd.slice 97 k97) BigP :=
  opens_slice Try.underlying61 (by kernel_rfl) opens_P
end
def toPk (x : Pq) : Pk := ⟨x.f0, x.f1.map toP⟩
theorem fulPS_len (b : Bool) (l : List Pq) : (fulPS b l).2 = l.length := by
  unfold fulPS
  split
  case isTrue h => rw [h.2]; rfl
  case isFalse h => rfl
theorem fulPS_false (l : List Pq) : fulPS false l = (l.map (toPF false) ++ List.replicate (room l.length) fillPF, l.length) := by
  unfold fulPS
  rw [if_neg (fun h => by cases h.1)]
theorem fulPS_take (b : Bool) (l : List Pq) : ((fulPS b l).1.take (fulPS b l).2).map plP = l.map toPk := by
  have e : plP ∘ toPF b = toPk := by funext x; show (⟨x.f0, ((fulDS b x.f1).1.take (fulDS b x.f1).2).map plD⟩ : Pk) = ⟨x.f0, x.f1.map toP⟩; rw [fulDS_take]
  unfold fulPS
  split
  case isTrue h => rw [h.2]; rfl
  case isFalse h => simp [e]
theorem toPSp (A0 : Option Addr) (c0 : Nat) (l0 : List Pq) (b : Bool) (w : World) (hr0 : Kd.C k97 w A0 l0.length l0) (hq : SmP l0) (P : List Pk) (hP : l0.map toPk = P) :
    Calls Try.prog 51 #[.slice A0 l0.length c0, .bool b] w fun e w' => ∃ A c, e = .returned (.slice A P.length c) ∧ P.length ≤ c ∧ Kd.C k53 w' A P.length P ∧
      (b = false → Kd.C kPF w' A (fulPS false l0).1.length (fulPS false l0).1 ∧ (fulPS false l0).1.length ≤ c) ∧ Below w.heap.size w w' :=
  (toPS_calls A0 c0 l0 b w hr0 hq.1 hq.2).mono fun e w' ⟨A, c, he, hn, ho, hb⟩ => by
    subst hP
    obtain ⟨_, h1, h2⟩ := Kd.S_reads' ho
    have h3 := C_plP (Kd.C_take h2 hn)
    rw [fulPS_take] at h3
    have hl : (l0.map toPk).length = (fulPS b l0).2 := by rw [List.length_map, fulPS_len]
    refine ⟨A, c, by rw [hl]; exact he, by rw [hl]; omega, h3, fun hb0 => ?_, hb⟩
    subst hb0
    exact ⟨h2, h1⟩
theorem okP_eq (l : List Pq) (hq : SmP l) : PkS (l.map toPk) := ⟨by rw [List.length_map]; exact hq.1, fun x hx => by
  obtain ⟨y, hy, rfl⟩ := List.mem_map.mp hx
  exact okD_eq _ (hq.2 y hy)⟩
theorem fulD_false (l : List Dq) (hq : SmQ l) : FulN (fulDS false l).1.length (fulDS false l).2 ∧ FulD (fulDS false l).1 (fulDS false l).2 := by
  have e : (fulDS false l).2 = l.length := fulDS_len _ _
  rw [e]
  refine ⟨?_, fun i hi => rdDF_ful l hq i hi, spare_ev l hq⟩
  rw [fulDS_false]
  exact ⟨by simp, hq.1⟩
theorem rdPF_ful (l : List Pq) (hq : SmP l) (i : Nat) (hi : i < l.length) : FulN (rd_PF (fulPS false l).1 i).2.1.length (rd_PF (fulPS false l).1 i).2.2 ∧ FulD (rd_PF (fulPS false l).1 i).2.1 (rd_PF (fulPS false l).1 i).2.2 := by
  rw [fulPS_false]
  have e : rd_PF (l.map (toPF false) ++ List.replicate (room l.length) fillPF) (i : Int) = toPF false l[i] := by
    simp [rd_PF, List.getD_eq_getElem?_getD, List.getElem?_append_left, hi]
  rw [e]
  exact fulD_false _ (hq.2 _ (List.getElem_mem hi))
theorem spareP_ev (l : List Pq) (hq : SmP l) : ∃ K, laws_eqPackedS.f K (((fulPS false l).1.drop l.length).map plP) (((fulPS false l).1.drop l.length).map plP) = some true := by
  have e : (fulPS false l).1.drop l.length = List.replicate (room l.length) fillPF := by rw [fulPS_false]; simp
  rw [e]
  have := room_le l.length
  have h1 := hq.1
  obtain ⟨K, hK⟩ := eqP_refl ((List.replicate (room l.length) fillPF).map plP) (by simp; omega) (fun x hx => by
    obtain ⟨y, hy, rfl⟩ := List.mem_map.mp hx
    obtain rfl := List.eq_of_mem_replicate hy
    refine ⟨by decide, fun z hz => ?_⟩
    obtain rfl : z = plD fillDF := by simpa [plP, fillPF] using hz
    decide)
  exact ⟨K, hK K (Nat.le_refl _)⟩
end Go.Proofs.Ytfnhjaiioojbkaa.Q
end
section
namespace Go.Proofs.Ytfnhjaiioojbkaa.Q
open Go.RowKit Go.Proofs.YtfnhjaiioojbkaaW.PrintWords Go.Proofs.YtfnhjaiioojbkaaW.PrintLast Go.Proofs.YtfnhjaiioojbkaaW.PrintMore
attribute [local go_sem] max2_int min2_int max_two min_two max_three min_three max_four min_four
set_option linter.unusedVariables false
set_option linter.unusedSimpArgs false
set_option maxHeartbeats 8000000 in
set_option maxRecDepth 100000 in
theorem fnExactPackOk_walk (A0 : Option Addr) (c0 : Nat) (l0 : List Pq) (w : World) (hr0 : Kd.C k97 w A0 l0.length l0) (hc0 : l0.length ≤ c0) (hb : BigP l0) :
    Calls Try.prog 11 #[.slice A0 l0.length c0] w fun e w' => e = .returned (.bool true) ∧ Below w.heap.size w w' := by
  obtain ⟨z, ⟨kz, hz⟩, z1, z2, z3⟩ := szP_ev hb (a := 1000000) (by omega) (by omega)
  have HZ := Aside0.mk (hz kz (Nat.le_refl _))
  have HR0 := Aside0.mk hr0
  have HC0 := Aside0.mk hc0
  clear hz hr0 hc0 hb
  have HB := Aside0.mk (Below.refl w.heap.size w)
  by_cases c : z < 0
  · have cb : decide (z < 0) = true := decide_eq_true c
    clear c z1 z2 z3
    go_enter Try.func11, Try.ntmps11
    go_wp2_with (first | ((with_reducible refine gate_callee (f := 50) rfl ?_); refine goesL_ (some 10) rfl rfl Try.func50 (by kernel_rfl) rfl #[.slice A0 l0.length c0, .int .i64 1000000] rfl (by (try simp only [List.map_toArray, List.map_cons, List.map_nil]); first | done | rfl) ?_; (refine (laws_szPackedS.calls kz _ _ l0 1000000 z _ (by repeat (first | (with_reducible exact HR0.out) | (with_reducible refine Kd.C_alloc ?_ _) | (with_reducible refine Kd.C_drewN ?_ _) | (with_reducible refine Kd.C_drew ?_) | exact HR0.out)) HC0.out HZ.out).mono ?_); rintro e w1 ⟨rfl, hb⟩; refine ⟨_, rfl, ?_⟩; have nb_ := Aside0.mk (below_step (by repeat (first | (with_reducible first | exact HB.out | apply below_alloc | apply pw_below_drewN | apply below_drew1) | exact HB.out)) hb); have nHR0_ := Aside0.mk (Kd.C_below (by repeat (first | (with_reducible exact HR0.out) | (with_reducible refine Kd.C_alloc ?_ _) | (with_reducible refine Kd.C_drewN ?_ _) | (with_reducible refine Kd.C_drew ?_) | exact HR0.out)) hb); clear HB hb; have HB := nb_; clear nb_; clear HR0; have HR0 := nHR0_; clear nHR0_))
    go_ret
    exact ⟨rfl, HB.out⟩
  · have cb : decide (z < 0) = false := decide_eq_false c
    have hq := z3 (by omega)
    have HQ := Aside0.mk hq
    have hS := okP_eq l0 hq
    obtain ⟨P, hP⟩ : ∃ P, l0.map toPk = P := ⟨_, rfl⟩
    rw [hP] at hS
    have hlen : P.length = l0.length := by rw [← hP]; simp
    have HPe := Aside0.mk hP
    clear hP
    obtain ⟨k1, h1⟩ := specOkAny_ev hS
    obtain ⟨k2, h2⟩ := implOkAny_ev hS
    have H1 := Aside0.mk (h1 k1 (Nat.le_refl _))
    have H2 := Aside0.mk (h2 k2 (Nat.le_refl _))
    generalize (resU (unG P P.length)).2.2 = b at H1 H2
    clear h1 h2 hS hq c z1 z2 z3
    have e1 : (b != b) = false := by simp
    have HN := Aside0.mk (show FulN (fulPS false l0).1.length P.length by
      rw [fulPS_false, hlen]
      exact ⟨by simp, HQ.out.1⟩)
    have HE := Aside0.mk (show ∀ i : Nat, i < P.length → FulN (rd_PF (fulPS false l0).1 i).2.1.length (rd_PF (fulPS false l0).1 i).2.2 ∧ FulD (rd_PF (fulPS false l0).1 i).2.1 (rd_PF (fulPS false l0).1 i).2.2 from fun i hi => rdPF_ful l0 HQ.out i (by rw [← hlen]; exact hi))
    have HP := Aside0.mk (show ∃ K, laws_eqPackedS.f K (((fulPS false l0).1.drop P.length).map plP) (((fulPS false l0).1.drop P.length).map plP) = some true by rw [hlen]; exact spareP_ev l0 HQ.out)
    clear hlen
    go_enter Try.func11, Try.ntmps11
    go_wp2_with (first | ((with_reducible refine gate_callee (f := 50) rfl ?_); refine goesL_ (some 10) rfl rfl Try.func50 (by kernel_rfl) rfl #[.slice A0 l0.length c0, .int .i64 1000000] rfl (by (try simp only [List.map_toArray, List.map_cons, List.map_nil]); first | done | rfl) ?_; (refine (laws_szPackedS.calls kz _ _ l0 1000000 z _ (by repeat (first | (with_reducible exact HR0.out) | (with_reducible refine Kd.C_alloc ?_ _) | (with_reducible refine Kd.C_drewN ?_ _) | (with_reducible refine Kd.C_drew ?_) | exact HR0.out)) HC0.out HZ.out).mono ?_); rintro e w1 ⟨rfl, hb⟩; refine ⟨_, rfl, ?_⟩; have nb_ := Aside0.mk (below_step (by repeat (first | (with_reducible first | exact HB.out | apply below_alloc | apply pw_below_drewN | apply below_drew1) | exact HB.out)) hb); have nHR0_ := Aside0.mk (Kd.C_below (by repeat (first | (with_reducible exact HR0.out) | (with_reducible refine Kd.C_alloc ?_ _) | (with_reducible refine Kd.C_drewN ?_ _) | (with_reducible refine Kd.C_drew ?_) | exact HR0.out)) hb); clear HB hb; have HB := nb_; clear nb_; clear HR0; have HR0 := nHR0_; clear nHR0_) | ((with_reducible refine gate_callee (f := 51) rfl ?_); refine goesL_ (some 14) rfl rfl Try.func51 (by kernel_rfl) rfl #[.slice A0 l0.length c0, .bool false] rfl (by (try simp only [List.map_toArray, List.map_cons, List.map_nil]); first | done | rfl) ?_; (refine (toPSp A0 c0 l0 false _ (by repeat (first | (with_reducible exact HR0.out) | (with_reducible refine Kd.C_alloc ?_ _) | (with_reducible refine Kd.C_drewN ?_ _) | (with_reducible refine Kd.C_drew ?_) | exact HR0.out)) HQ.out P HPe.out).mono ?_); rintro e w1 ⟨A1, c1, rfl, hl_, hc_, hf_, hb⟩; refine ⟨_, rfl, ?_⟩; have nb_ := Aside0.mk (below_step (by repeat (first | (with_reducible first | exact HB.out | apply below_alloc | apply pw_below_drewN | apply below_drew1) | exact HB.out)) hb); have nHR0_ := Aside0.mk (Kd.C_below (by repeat (first | (with_reducible exact HR0.out) | (with_reducible refine Kd.C_alloc ?_ _) | (with_reducible refine Kd.C_drewN ?_ _) | (with_reducible refine Kd.C_drew ?_) | exact HR0.out)) hb); have L1 := Aside0.mk hl_; have C1 := Aside0.mk hc_; have F1 := Aside0.mk (hf_ rfl).1; have G1 := Aside0.mk (hf_ rfl).2; clear HB hb; have HB := nb_; clear nb_; clear HR0; have HR0 := nHR0_; clear nHR0_) | ((with_reducible refine gate_callee (f := 42) rfl ?_); refine goesL_ (some 15) rfl rfl Try.func42 (by kernel_rfl) rfl #[.slice A1 P.length c1] rfl (by (try simp only [List.map_toArray, List.map_cons, List.map_nil]); first | done | rfl) ?_; (refine (spec_PackOk.calls k1 _ _ P b _ (by repeat (first | (with_reducible exact C1.out) | (with_reducible refine Kd.C_alloc ?_ _) | (with_reducible refine Kd.C_drewN ?_ _) | (with_reducible refine Kd.C_drew ?_) | exact C1.out)) L1.out H1.out).mono ?_); rintro e w1 ⟨rfl, hb⟩; refine ⟨_, rfl, ?_⟩; have nb_ := Aside0.mk (below_step (by repeat (first | (with_reducible first | exact HB.out | apply below_alloc | apply pw_below_drewN | apply below_drew1) | exact HB.out)) hb); have nHR0_ := Aside0.mk (Kd.C_below (by repeat (first | (with_reducible exact HR0.out) | (with_reducible refine Kd.C_alloc ?_ _) | (with_reducible refine Kd.C_drewN ?_ _) | (with_reducible refine Kd.C_drew ?_) | exact HR0.out)) hb); clear HB hb; have HB := nb_; clear nb_; clear HR0; have HR0 := nHR0_; clear nHR0_) | ((with_reducible refine gate_callee (f := 51) rfl ?_); refine goesL_ (some 17) rfl rfl Try.func51 (by kernel_rfl) rfl #[.slice A0 l0.length c0, .bool false] rfl (by (try simp only [List.map_toArray, List.map_cons, List.map_nil]); first | done | rfl) ?_; (refine (toPSp A0 c0 l0 false _ (by repeat (first | (with_reducible exact HR0.out) | (with_reducible refine Kd.C_alloc ?_ _) | (with_reducible refine Kd.C_drewN ?_ _) | (with_reducible refine Kd.C_drew ?_) | exact HR0.out)) HQ.out P HPe.out).mono ?_); rintro e w1 ⟨A2, c2, rfl, hl_, hc_, hf_, hb⟩; refine ⟨_, rfl, ?_⟩; have nb_ := Aside0.mk (below_step (by repeat (first | (with_reducible first | exact HB.out | apply below_alloc | apply pw_below_drewN | apply below_drew1) | exact HB.out)) hb); have nHR0_ := Aside0.mk (Kd.C_below (by repeat (first | (with_reducible exact HR0.out) | (with_reducible refine Kd.C_alloc ?_ _) | (with_reducible refine Kd.C_drewN ?_ _) | (with_reducible refine Kd.C_drew ?_) | exact HR0.out)) hb); have L2 := Aside0.mk hl_; have C2 := Aside0.mk hc_; have F2 := Aside0.mk (hf_ rfl).1; have G2 := Aside0.mk (hf_ rfl).2; clear HB hb; have HB := nb_; clear nb_; clear HR0; have HR0 := nHR0_; clear nHR0_) | ((with_reducible refine gate_callee (f := 41) rfl ?_); refine goesL_ (some 19) rfl rfl Try.func41 (by kernel_rfl) rfl #[.slice A2 P.length c2] rfl (by (try simp only [List.map_toArray, List.map_cons, List.map_nil]); first | done | rfl) ?_; (refine (impl_PackOk.calls k2 _ _ P b _ (by repeat (first | (with_reducible exact C2.out) | (with_reducible refine Kd.C_alloc ?_ _) | (with_reducible refine Kd.C_drewN ?_ _) | (with_reducible refine Kd.C_drew ?_) | exact C2.out)) L2.out H2.out).mono ?_); rintro e w1 ⟨rfl, hb⟩; refine ⟨_, rfl, ?_⟩; have nb_ := Aside0.mk (below_step (by repeat (first | (with_reducible first | exact HB.out | apply below_alloc | apply pw_below_drewN | apply below_drew1) | exact HB.out)) hb); have nHR0_ := Aside0.mk (Kd.C_below (by repeat (first | (with_reducible exact HR0.out) | (with_reducible refine Kd.C_alloc ?_ _) | (with_reducible refine Kd.C_drewN ?_ _) | (with_reducible refine Kd.C_drew ?_) | exact HR0.out)) hb); have nF2_ := Aside0.mk (Kd.C_below (by repeat (first | (with_reducible exact F2.out) | (with_reducible refine Kd.C_alloc ?_ _) | (with_reducible refine Kd.C_drewN ?_ _) | (with_reducible refine Kd.C_drew ?_) | exact F2.out)) hb); clear HB hb; have HB := nb_; clear nb_; clear HR0; have HR0 := nHR0_; clear nHR0_; clear F2; have F2 := nF2_; clear nF2_) | ((with_reducible refine gate_callee (f := 51) rfl ?_); refine goesL_ (some 25) rfl rfl Try.func51 (by kernel_rfl) rfl #[.slice A0 l0.length c0, .bool false] rfl (by (try simp only [List.map_toArray, List.map_cons, List.map_nil]); first | done | rfl) ?_; (refine (toPSp A0 c0 l0 false _ (by repeat (first | (with_reducible exact HR0.out) | (with_reducible refine Kd.C_alloc ?_ _) | (with_reducible refine Kd.C_drewN ?_ _) | (with_reducible refine Kd.C_drew ?_) | exact HR0.out)) HQ.out P HPe.out).mono ?_); rintro e w1 ⟨A3, c3, rfl, hl_, hc_, hf_, hb⟩; refine ⟨_, rfl, ?_⟩; have nb_ := Aside0.mk (below_step (by repeat (first | (with_reducible first | exact HB.out | apply below_alloc | apply pw_below_drewN | apply below_drew1) | exact HB.out)) hb); have nHR0_ := Aside0.mk (Kd.C_below (by repeat (first | (with_reducible exact HR0.out) | (with_reducible refine Kd.C_alloc ?_ _) | (with_reducible refine Kd.C_drewN ?_ _) | (with_reducible refine Kd.C_drew ?_) | exact HR0.out)) hb); have nF2_ := Aside0.mk (Kd.C_below (by repeat (first | (with_reducible exact F2.out) | (with_reducible refine Kd.C_alloc ?_ _) | (with_reducible refine Kd.C_drewN ?_ _) | (with_reducible refine Kd.C_drew ?_) | exact F2.out)) hb); have L3 := Aside0.mk hl_; have C3 := Aside0.mk hc_; have F3 := Aside0.mk (hf_ rfl).1; have G3 := Aside0.mk (hf_ rfl).2; clear HB hb; have HB := nb_; clear nb_; clear HR0; have HR0 := nHR0_; clear nHR0_; clear F2; have F2 := nF2_; clear nF2_) | ((with_reducible refine gate_callee (f := 52) rfl ?_); refine goesL_ (some 26) rfl rfl Try.func52 (by kernel_rfl) rfl #[.slice A2 P.length c2, .slice A3 P.length c3] rfl (by (try simp only [List.map_toArray, List.map_cons, List.map_nil]); first | done | rfl) ?_; (refine (intPS_calls A2 A3 c2 c3 (fulPS false l0).1 P.length _ (by repeat (first | (with_reducible exact F2.out) | (with_reducible refine Kd.C_alloc ?_ _) | (with_reducible refine Kd.C_drewN ?_ _) | (with_reducible refine Kd.C_drew ?_) | exact F2.out)) G2.out (by repeat (first | (with_reducible exact F3.out) | (with_reducible refine Kd.C_alloc ?_ _) | (with_reducible refine Kd.C_drewN ?_ _) | (with_reducible refine Kd.C_drew ?_) | exact F3.out)) G3.out HN.out HE.out HP.out).mono ?_); rintro e w1 ⟨rfl, hb⟩; refine ⟨_, rfl, ?_⟩; have nb_ := Aside0.mk (below_step (by repeat (first | (with_reducible first | exact HB.out | apply below_alloc | apply pw_below_drewN | apply below_drew1) | exact HB.out)) hb); have nHR0_ := Aside0.mk (Kd.C_below (by repeat (first | (with_reducible exact HR0.out) | (with_reducible refine Kd.C_alloc ?_ _) | (with_reducible refine Kd.C_drewN ?_ _) | (with_reducible refine Kd.C_drew ?_) | exact HR0.out)) hb); clear HB hb; have HB := nb_; clear nb_; clear HR0; have HR0 := nHR0_; clear nHR0_) | ((with_reducible refine gate_callee (f := 51) rfl ?_); refine goesL_ (some 29) rfl rfl Try.func51 (by kernel_rfl) rfl #[.slice A0 l0.length c0, .bool true] rfl (by (try simp only [List.map_toArray, List.map_cons, List.map_nil]); first | done | rfl) ?_; (refine (toPSp A0 c0 l0 true _ (by repeat (first | (with_reducible exact HR0.out) | (with_reducible refine Kd.C_alloc ?_ _) | (with_reducible refine Kd.C_drewN ?_ _) | (with_reducible refine Kd.C_drew ?_) | exact HR0.out)) HQ.out P HPe.out).mono ?_); rintro e w1 ⟨A4, c4, rfl, hl_, hc_, hf_, hb⟩; refine ⟨_, rfl, ?_⟩; have nb_ := Aside0.mk (below_step (by repeat (first | (with_reducible first | exact HB.out | apply below_alloc | apply pw_below_drewN | apply below_drew1) | exact HB.out)) hb); have nHR0_ := Aside0.mk (Kd.C_below (by repeat (first | (with_reducible exact HR0.out) | (with_reducible refine Kd.C_alloc ?_ _) | (with_reducible refine Kd.C_drewN ?_ _) | (with_reducible refine Kd.C_drew ?_) | exact HR0.out)) hb); have L4 := Aside0.mk hl_; have C4 := Aside0.mk hc_; clear HB hb; have HB := nb_; clear nb_; clear HR0; have HR0 := nHR0_; clear nHR0_) | ((with_reducible refine gate_callee (f := 41) rfl ?_); refine goesL_ (some 30) rfl rfl Try.func41 (by kernel_rfl) rfl #[.slice A4 P.length c4] rfl (by (try simp only [List.map_toArray, List.map_cons, List.map_nil]); first | done | rfl) ?_; (refine (impl_PackOk.calls k2 _ _ P b _ (by repeat (first | (with_reducible exact C4.out) | (with_reducible refine Kd.C_alloc ?_ _) | (with_reducible refine Kd.C_drewN ?_ _) | (with_reducible refine Kd.C_drew ?_) | exact C4.out)) L4.out H2.out).mono ?_); rintro e w1 ⟨rfl, hb⟩; refine ⟨_, rfl, ?_⟩; have nb_ := Aside0.mk (below_step (by repeat (first | (with_reducible first | exact HB.out | apply below_alloc | apply pw_below_drewN | apply below_drew1) | exact HB.out)) hb); have nHR0_ := Aside0.mk (Kd.C_below (by repeat (first | (with_reducible exact HR0.out) | (with_reducible refine Kd.C_alloc ?_ _) | (with_reducible refine Kd.C_drewN ?_ _) | (with_reducible refine Kd.C_drew ?_) | exact HR0.out)) hb); clear HB hb; have HB := nb_; clear nb_; clear HR0; have HR0 := nHR0_; clear nHR0_))
    go_ret
    exact ⟨rfl, HB.out⟩
end Go.Proofs.Ytfnhjaiioojbkaa.Q
end
section
/- FnExactPackOk: for every argument the law returns true, and its arguments read behind the call as they read before. No conditions. -/
namespace Go.Proofs.Ytfnhjaiioojbkaa.fnExactPackOk
open Go.ChangeShapes Go.WideShapes Go.ChangeAt Go.RowKit
set_option linter.unusedVariables false
theorem own : ownKnob Try.prog.godebug = none := by kernel_rfl
theorem laidOut : laidOutB Try.prog = true := by kernel_rfl
set_option maxRecDepth 100000 in
theorem lifted (os : Os) (started : os.Started) (H : Type) (enc : TypeId × Value → H) :
    ReturnsInHanded {} Try.checked os 11 .any (Rows.fnExactPackOkSpec.pre6 enc Try.prog Try.f11 Rows.fnExactPackOkRow.domain false) (Rows.fnExactPackOkSpec.post enc Try.prog Try.f11 false true false false) := by
  refine returnsInHanded_of_change_sized (C := Try.checked) own started (by kernel_rfl) Try.func11
    (ChangeSpec.witness6 (enc := enc) (C := Try.checked) false ⟨#[], #[.slice none 0 0], []⟩ 11 (by kernel_rfl) (by kernel_rfl) (by kernel_rfl) (by kernel_rfl)) ?_
  intro W base args ds gs before hval0 hW hcnd hsz0 _
  have hval : ∀ (j : Nat) t v, Try.f11.params[j]? = some t → args[j]? = some v → Value.okWide Try.prog W .any base t v := hval0
  have hW' := hW
  obtain ⟨p, q, hA0, hV, rfl, hfz, hnd⟩ := hW
  have hA : DataW.TrodAll enc Try.prog W 0 (fun _ => true) true Try.f11.params.toList args.toList ds p := hA0
  rw [Try.params11] at hA hval
  obtain ⟨v0, vs0, d0, ds0, p0, q0, hargs, rfl, rfl, h0, r0⟩ := trodAll_cons hA
  obtain ⟨rfl, rfl, rfl⟩ := trodAll_nil r0
  obtain rfl : args = #[v0] := by cases args; simp_all
  obtain ⟨rfl, rfl⟩ := trodVars_none hV
  obtain ⟨a0, len0, cap0, rfl⟩ := okWide_slice Try.underlying61 (hval 0 61 v0 rfl rfl)
  have k0 := h0
  have lt0 : ∀ x ∈ p0, x.block < W.heap.size := by obtain ⟨m, hm⟩ := k0; exact DataW.trod_lt m _ _ _ hm
  obtain ⟨l0, e0, hc0, hr0, hb0⟩ := Q.opened Q.opens_PS h0
  subst e0
  clear hA0 hval0 hsz0
  refine (Q.fnExactPackOk_walk a0 cap0 l0 W hr0 hc0 hb0).mono fun e W' ⟨he, bel⟩ => ?_
  subst he
  exact ⟨_, rfl, _, _, _, [], _, [], hW', trodAll_mk1 (shut_bool Try.underlying4 _), (trodAll_cons_mk (Below.trod laidOut (by kernel_rfl) (of_decide_eq_true (by kernel_rfl)) k0 bel lt0) trodAll_mk0), rfl, bel.frame _, fun h => by cases h⟩
theorem over : Rows.fnExactPackOkRow.holds Try.pinned (OpenSpec.ofChange Rows.fnExactPackOkSpec) :=
  OpenClaim.holds_of_wide 11 Try.f11 rfl rfl rfl rfl rfl rfl rfl ⟨rfl, rfl, rfl, rfl, rfl⟩ rfl rfl rfl rfl rfl (by kernel_rfl) Try.func11 (by kernel_rfl)
    (of_decide_eq_true (by kernel_rfl)) (by unfold Func.isWrapper; first | (rw [if_pos (by decide +kernel)]; kernel_rfl) | (rw [if_neg (by decide +kernel)]; exact ⟨rfl, rfl⟩))
    (fun os started H enc _ => lifted os started H enc)
theorem proved : Rows.FnExactPackOkSaid := over
#print axioms proved
end Go.Proofs.Ytfnhjaiioojbkaa.fnExactPackOk
namespace Go.Proofs.Ytfnhjaiioojbkaa
/-- The row, under a short name, for the claim. -/
theorem fnExactPackOk_holds : Rows.FnExactPackOkSaid := fnExactPackOk.proved
end Go.Proofs.Ytfnhjaiioojbkaa
end
