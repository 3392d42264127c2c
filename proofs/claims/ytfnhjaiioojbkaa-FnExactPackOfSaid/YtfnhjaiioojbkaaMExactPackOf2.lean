/- A part of the proof of FnExactPackOf: functions of the program, the reference and the law, each with what its call comes to. Conditions: those that each theorem names. -/
import Derived.Shelf.Abstract
import Derived.Deep.Slices
import Derived.Deep.Strs
import Derived.ChangeArms
import Derived.Test.YtfnhjaiioojbkaaMExactPackOf0
import Derived.Test.YtfnhjaiioojbkaaMExactPackOf1
set_option linter.unusedVariables false
set_option linter.unusedSimpArgs false
section
namespace Go.Proofs.Ytfnhjaiioojbkaa.Q
open Go.RowKit Go.Proofs.YtfnhjaiioojbkaaW.PrintWords Go.Proofs.YtfnhjaiioojbkaaW.PrintLast Go.Proofs.YtfnhjaiioojbkaaW.PrintMore
attribute [local go_sem] max2_int min2_int max_two min_two max_three min_three max_four min_four   -- for this text's walks alone
set_option linter.unusedVariables false
set_option linter.unusedSimpArgs false
def laws_roomBehind.f (a0 : Int) : Option (Int) := if (Int.tmod a0 6) = 5 then (some 0) else (if (Int.tmod a0 3) = 0 then (some 1) else (some a0))
set_option maxHeartbeats 8000000 in
set_option maxRecDepth 100000 in
theorem laws_roomBehind.calls (a0 : Int) (r : Int) (w : World) (h : laws_roomBehind.f a0 = some r) :
 Calls Try.prog 62 #[.int .i64 a0] w fun e w' => e = .returned (.int .i64 r) ∧ Drawn0 w w' := by
 have H : (if (Int.tmod a0 6) = 5 then (some 0) else (if (Int.tmod a0 3) = 0 then (some 1) else (some a0))) = some r := h; clear h; by_cases c2 : (Int.tmod a0 6) = 5
 ·rw [if_pos c2] at H; have c2b0 : ((Int.tmod a0 6) == 5) = true := beq_iff_eq.mpr c2; have c2b1 : ((Int.tmod a0 6) != 5) = false := bne_eq_false_iff_eq.mpr c2; clear c2; obtain rfl := Option.some.inj H; go_enter Try.func62, Try.ntmps62; go_wp2; go_ret; exact ⟨by first | rfl | (simp; done) | (simp [*]; done), by repeat (first | exact Drawn0.refl _ | apply Drawn0.step)⟩
 ·rw [if_neg c2] at H; have c2b0 : ((Int.tmod a0 6) == 5) = false := beq_eq_false_iff_ne.mpr c2; have c2b1 : ((Int.tmod a0 6) != 5) = true := bne_iff_ne.mpr c2; by_cases c3 : (Int.tmod a0 3) = 0
  ·rw [if_pos c3] at H; have c3b0 : ((Int.tmod a0 3) == 0) = true := beq_iff_eq.mpr c3; have c3b1 : ((Int.tmod a0 3) != 0) = false := bne_eq_false_iff_eq.mpr c3; clear c3; obtain rfl := Option.some.inj H; go_enter Try.func62, Try.ntmps62; go_wp2; go_ret; exact ⟨by first | rfl | (simp; done) | (simp [*]; done), by repeat (first | exact Drawn0.refl _ | apply Drawn0.step)⟩
  ·rw [if_neg c3] at H; have c3b0 : ((Int.tmod a0 3) == 0) = false := beq_eq_false_iff_ne.mpr c3; have c3b1 : ((Int.tmod a0 3) != 0) = true := bne_iff_ne.mpr c3; obtain rfl := Option.some.inj H; go_enter Try.func62, Try.ntmps62; go_wp2; go_ret; exact ⟨by first | rfl | (simp; done) | (simp [*]; done), by repeat (first | exact Drawn0.refl _ | apply Drawn0.step)⟩
end Go.Proofs.Ytfnhjaiioojbkaa.Q
end
section
namespace Go.Proofs.Ytfnhjaiioojbkaa.Q
open Go.RowKit Go.Proofs.YtfnhjaiioojbkaaW.PrintWords
set_option linter.unusedVariables false
set_option linter.unusedSimpArgs false
/-- A slice of n elements, told with all that lies up to its capacity's end as far as is known. -/
def fsl {α : Type} (e : Nat) (d : Kd α) : Kd (List α × Nat) where
  sz := 1
  E := e :: d.E
  K := fun w x cs => ∃ A c, cs = [.slice A x.2 c] ∧ x.2 ≤ x.1.length ∧ x.1.length ≤ c ∧ d.C w A x.1.length x.1
  M := fun w base ok x cs => ∃ A c, cs = [.slice A x.2 c] ∧ x.2 ≤ x.1.length ∧ d.R e w base ok (.slice A x.1.length c) x.1
  K_len := by
    rintro w x cs ⟨A, c, rfl, _⟩
    rfl
  K_one := by
    rintro w x cs ⟨A, c, rfl, _⟩ u hu
    rw [List.mem_singleton.1 hu]
    rfl
  K_below := by
    rintro w w1 x cs hb ⟨A, c, rfl, hn, hl, hr⟩
    exact ⟨A, c, rfl, hn, hl, Kd.C_below hr hb⟩
  K_of_M := by
    rintro w base ok x cs ⟨A, c, rfl, hn, h⟩
    obtain ⟨_, hl, hr⟩ := Kd.R_reads' h
    exact ⟨A, c, rfl, hn, hl, hr⟩
  M_mono := by
    rintro w base ok ok' x cs hok ⟨A, c, rfl, hn, h⟩
    exact ⟨A, c, rfl, hn, Kd.R_mono h hok⟩
  M_bound := by
    rintro w base ok x cs ⟨A, c, rfl, hn, h⟩
    exact ⟨A, c, rfl, hn, Kd.R_bound h⟩
  M_move := by
    rintro w w1 base ok x cs hm ⟨A, c, rfl, hn, h⟩
    exact ⟨A, c, rfl, hn, Kd.R_move h hm⟩
  M_lower := by
    rintro w base base' ok x cs hb ⟨A, c, rfl, hn, h⟩
    exact ⟨A, c, rfl, hn, Kd.R_lower h hb⟩
/-- How much lies behind n elements. -/
def room (n : Nat) : Nat := if n % 6 = 5 then 0 else if n % 3 = 0 then 1 else n
theorem room_ev (n : Nat) : laws_roomBehind.f (n : Int) = some (room n : Int) := by
  unfold laws_roomBehind.f room
  rw [Int.tmod_eq_emod_of_nonneg (by omega), Int.tmod_eq_emod_of_nonneg (by omega)]
  by_cases h1 : n % 6 = 5
  · rw [if_pos (by omega), if_pos h1]; rfl
  · rw [if_neg (by omega), if_neg h1]
    by_cases h2 : n % 3 = 0
    · rw [if_pos (by omega), if_pos h2]; rfl
    · rw [if_neg (by omega), if_neg h2]
def spareS : ByteArray := ⟨#[126, 115, 112, 97, 114, 101, 126]⟩
def fulS (b : Bool) (l : List ByteArray) : List ByteArray × Nat := if b = true ∧ l = [] then ([], 0) else (l ++ List.replicate (room l.length) spareS, l.length)
end Go.Proofs.Ytfnhjaiioojbkaa.Q
end
section
namespace Go.Proofs.Ytfnhjaiioojbkaa.Q
open Go.RowKit Go.Proofs.YtfnhjaiioojbkaaW.PrintWords Go.Proofs.YtfnhjaiioojbkaaW.PrintLast Go.Proofs.YtfnhjaiioojbkaaW.PrintMore
attribute [local go_sem] max2_int min2_int max_two min_two max_three min_three max_four min_four
set_option linter.unusedVariables false
set_option linter.unusedSimpArgs false
theorem fill_set {α : Type} (p : List α) (m : Nat) (z a : α) (i : Nat) (hi : i = p.length) (hm : 0 < m) : (p ++ List.replicate m z).set i a = (p ++ [a]) ++ List.replicate (m - 1) z := by
  subst hi
  obtain ⟨m, rfl⟩ : ∃ n, m = n + 1 := ⟨m - 1, by omega⟩
  simp [List.replicate_succ]
set_option maxHeartbeats 4000000 in
theorem toS_calls (A0 : Option Addr) (c0 : Nat) (l0 : List ByteArray) (b : Bool) (w : World) (hr0 : Kd.C Kd.string w A0 l0.length l0) (hl : l0.length ≤ 1000000) :
    Calls Try.prog 28 #[.slice A0 l0.length c0, .bool b] w fun e w' => ∃ A c, e = .returned (.slice A (fulS b l0).2 c) ∧ (fulS b l0).2 ≤ (fulS b l0).1.length ∧
      Kd.R Kd.string 9 w' w.heap.size (fun k => w.heap.size ≤ k) (.slice A (fulS b l0).1.length c) (fulS b l0).1 ∧ Below w.heap.size w w' := by
  have HR0 := Aside0.mk hr0
  have HL := Aside0.mk hl
  have HB := Aside0.mk (Below.refl w.heap.size w)
  clear hr0 hl
  obtain ⟨F, hF⟩ : ∃ F, fulS b l0 = F := ⟨_, rfl⟩
  rw [hF]
  have HF := Aside0.mk hF
  clear hF
  go_enter Try.func28, Try.ntmps28
  go_upto_region 1 with (fail)
  go_cut [13] (fun v13 wc => v13 = .bool (b && ((l0.length : Int) == 0)) ∧ Aside0 (Below w.heap.size w wc))
  case first =>
    cases b
    · go_wp2
      go_meet
      case rel => exact ⟨rfl, ⟨by repeat (first | (with_reducible first | exact HB.out | apply below_alloc | apply pw_below_drewN | apply below_drew1) | exact HB.out)⟩⟩
    · go_wp2
      go_meet
      case rel => exact ⟨rfl, ⟨by repeat (first | (with_reducible first | exact HB.out | apply below_alloc | apply pw_below_drewN | apply below_drew1) | exact HB.out)⟩⟩
  case rest =>
    clear HB
    obtain ⟨rfl, HB⟩ := hcut
    by_cases hb : b = true ∧ l0 = []
    · have hf : fulS b l0 = ([], 0) := if_pos hb
      have hF := HF.out.symm.trans hf
      subst hF
      obtain ⟨rfl, rfl⟩ := hb
      go_wp2
      go_ret
      exact ⟨none, 0, rfl, Kd.R_nil _ _ _ _ _, HB.out⟩
    · have hf : fulS b l0 = (l0 ++ List.replicate (room l0.length) spareS, l0.length) := if_neg hb
      have HF2 := Aside0.mk (HF.out.symm.trans hf)
      have hc : (b && ((l0.length : Int) == 0)) = false := by
        cases b
        · rfl
        · simp only [Bool.true_and, beq_eq_false_iff_ne, ne_eq]
          intro h
          exact hb ⟨rfl, List.length_eq_zero_iff.mp (by omega)⟩
      rw [hc]
      clear hc hb hf HF
      have R9 := room_ev l0.length
      have hrl : room l0.length ≤ 1000000 := by
        have := HL.out
        unfold room
        repeat' split
        all_goals omega
      obtain ⟨N, hN⟩ : ∃ N, l0.length + room l0.length = N := ⟨_, rfl⟩
      have HN := Aside0.mk hN
      have HNb := Aside0.mk (show N ≤ 2000000 by have := HL.out; omega)
      have hw : wrap64 ((l0.length : Int) + (room l0.length : Int)) = (N : Int) := by
        have := HL.out
        unfold wrap64; omega
      have hw2 : (IntKind.i64.wrap ((l0.length : Int) + (room l0.length : Int))) = (N : Int) := (i64_w _).trans hw
      have hN2 : (N : Int).toNat ≤ 17592186044416 := by have := HL.out; omega
      have h0 : 0 ≤ (N : Int) := by omega
      have R9 := Aside0.mk R9
      clear hrl hN
      go_wp2_with (first | ((with_reducible refine gate_callee (f := 62) rfl ?_); refine goesL_ (some 18) rfl rfl Try.func62 (by kernel_rfl) rfl #[.int .i64 (l0.length : Int)] rfl (by (try simp only [List.map_toArray, List.map_cons, List.map_nil]); first | done | rfl) ?_; (with_reducible refine (laws_roomBehind.calls (l0.length : Int) _ _ R9.out).mono ?_); rintro e w' ⟨rfl, ⟨nd, rfl⟩⟩; refine ⟨_, rfl, ?_⟩) | ((with_reducible refine gate_dst (N := 20) rfl ?_); (try (refine gate_guard (by rfl) ?_; dsimp only)); refine Kd.R_make Kd.string _ 9 rfl (N := 20) rfl 30 _ _ rfl (N : Int) rfl rfl Try.underlying30 (.string ⟨#[]⟩) 16 info9 rfl (by decide) (by omega) (⟨#[]⟩ : ByteArray) (ok := fun _ => True) (okp := fun _ => True) rfl (fun _ hk => hk) trivial h0 (Nat.le_trans (Nat.mul_le_mul_right _ hN2) (by omega)) (Below.refl _ _) (Nat.le_refl _) ?_; intro v111 w10 ho11 hb hg_ hnew_; clear hg_ hnew_; have n0_ := Aside0.mk (Kd.R_lower ho11 (below_size (by repeat (first | (with_reducible first | exact HB.out | apply below_alloc | apply pw_below_drewN | apply below_drew1) | exact HB.out)))); have n1_ := Aside0.mk (below_step (by repeat (first | (with_reducible first | exact HB.out | apply below_alloc | apply pw_below_drewN | apply below_drew1) | exact HB.out)) hb); clear HB; have HO := n0_; have HB := n1_; clear n0_ n1_; clear hb ho11))
      clear hw hw2 hN2 h0 R9
      have hst : List.replicate (N : Int).toNat (⟨#[]⟩ : ByteArray) = l0.take 0 ++ List.replicate (N - 0) ⟨#[]⟩ := by simp
      rw [hst] at HO
      clear hst
      obtain ⟨Ao, co, eo⟩ := Kd.R_slice HO.out
      subst eo
      rw [show (l0.take 0 ++ List.replicate (N - 0) (⟨#[]⟩ : ByteArray)).length = N by simp] at HO ⊢
      go_loopg [6] l0.length (fun gg v6 wr => ∃ i : Nat, v6 = .int .i64 i ∧ i ≤ l0.length ∧ l0.length - i ≤ gg ∧ Aside0 (Kd.R Kd.string 9 wr w.heap.size (fun _ => True) (.slice Ao N co) (l0.take i ++ List.replicate (N - i) (⟨#[]⟩ : ByteArray))) ∧ Aside0 (Below w.heap.size w wr))
      case atStart => exact ⟨0, rfl, Nat.zero_le _, by omega, HO, HB⟩
      case round =>
        clear HO HB
        obtain ⟨i, rfl, hi, hg, HO, HB⟩ := hrel
        by_cases hlt : i < l0.length
        · have hlN : i < N := by have := HN.out; omega
          have HLT := Aside0.mk hlt
          have hib : i ≤ 1000000 := by have := HL.out; omega
          have hltz : (i : Int) < (l0.length : Int) := by omega
          have hlen : (l0.take i ++ List.replicate (N - i) (⟨#[]⟩ : ByteArray)).length = N := by simp; omega
          obtain ⟨ad, rfl, hx⟩ := Kd.at_string HR0.out (i : Int) (by omega) hltz
          have hx := (HB.out.cell (World.block_lt_of_cell? w _ hx)).trans hx
          obtain ⟨go, co', eo, gb, gl, cl, HG⟩ := Kd.R_form HO.out (by omega)
          injection eo with ea en ec
          subst ea
          subst ec
          have GB := Aside0.mk gb
          clear gb gl HG en
          have hNz : (i : Int) < (N : Int) := by omega
          have h0 : 0 ≤ (i : Int) := by omega
          obtain ⟨hx0, hf0⟩ := Kd.R_celln (⟨#[]⟩ : ByteArray) HO.out (i : Int) h0 hNz
          have HP := Kd.R_putg HO.out (i : Int) (rdOf ByteArray.empty l0 i)
          have hset : (l0.take i ++ List.replicate (N - i) (⟨#[]⟩ : ByteArray)).set i (rdOf ByteArray.empty l0 i) = l0.take (i + 1) ++ List.replicate (N - (i + 1)) ⟨#[]⟩ := by
            rw [fill_set _ _ _ _ _ (by simp; omega) (by omega), rdAt hlt, List.take_append_getElem hlt]
            rfl
          simp only [Int.toNat_natCast] at hx hx0 hf0 HP
          rw [hset] at HP
          clear hset hlen
          go_wp2_with (first | ((with_reducible refine gate_store (t := 9) (p := 33) rfl ?_); refine store_event (t := 9) (p := 33) (v := ?vo1) (w1 := (wr.setCell ⟨go, i, none⟩ (.string (rdOf ByteArray.empty l0 i)))) ?hg ?ho ?hn ?hr ?_; (case ho => rfl); (case hg => rfl); (case hn => rfl); (case hr => first | (go_simp; done) | (go_simp; rfl)); intro w17 hw; have n0_ := Aside0.mk (show Kd.R Kd.string 9 w17 w.heap.size (fun _ => True) (.slice (some ⟨go, 0, none⟩) N co) _ from (by rw [hw]; exact HP.1)); have n1_ := Aside0.mk ((by rw [hw]; exact below_set (HB.out) GB.out : Below w.heap.size w w17)); clear HP HO HB; have HO := n0_; have HB := n1_; clear n0_ n1_; clear hw))
          go_roundg (l0.length - (i + 1))
          case measure => have := HLT.out; omega
          case rel => exact ⟨i + 1, by go_num, HLT.out, by omega, HO, HB⟩
        · obtain rfl : i = l0.length := by omega
          have hltz : ¬ (l0.length : Int) < (l0.length : Int) := by omega
          rw [List.take_length] at HO
          have HO2 : Aside0 (Kd.R Kd.string 9 wr w.heap.size (fun _ => True) (.slice Ao N co) (l0 ++ List.replicate (l0.length - l0.length) spareS ++ List.replicate (N - l0.length) (⟨#[]⟩ : ByteArray))) := ⟨by rw [Nat.sub_self]; simpa using HO.out⟩
          clear HO
          go_wp2
          go_loopg [7] N (fun gg v7 wr => ∃ i : Nat, v7 = .int .i64 i ∧ l0.length ≤ i ∧ i ≤ N ∧ N - i ≤ gg ∧ Aside0 (Kd.R Kd.string 9 wr w.heap.size (fun _ => True) (.slice Ao N co) (l0 ++ List.replicate (i - l0.length) spareS ++ List.replicate (N - i) (⟨#[]⟩ : ByteArray))) ∧ Aside0 (Below w.heap.size w wr))
          case atStart => exact ⟨l0.length, rfl, Nat.le_refl _, by have := HN.out; omega, by omega, HO2, HB⟩
          case round =>
            clear HO2 HB hltz hg hi
            obtain ⟨i, rfl, hi, hiN, hg, HO, HB⟩ := hrel
            by_cases hlt : i < N
            · have HLT := Aside0.mk hlt
              have hib : i ≤ 2000000 := by have := HNb.out; omega
              have hlen : (l0 ++ List.replicate (i - l0.length) spareS ++ List.replicate (N - i) (⟨#[]⟩ : ByteArray)).length = N := by simp; omega
              obtain ⟨go, co', eo, gb, gl, cl, HG⟩ := Kd.R_form HO.out (by omega)
              injection eo with ea en ec
              subst ea
              subst ec
              have GB := Aside0.mk gb
              clear gb gl HG en
              have hNz : (i : Int) < (N : Int) := by omega
              have h0 : 0 ≤ (i : Int) := by omega
              obtain ⟨hx0, hf0⟩ := Kd.R_celln (⟨#[]⟩ : ByteArray) HO.out (i : Int) h0 hNz
              have HP := Kd.R_putg HO.out (i : Int) (⟨#[126, 115, 112, 97, 114, 101, 126]⟩ : ByteArray)
              have hset : (l0 ++ List.replicate (i - l0.length) spareS ++ List.replicate (N - i) (⟨#[]⟩ : ByteArray)).set i (⟨#[126, 115, 112, 97, 114, 101, 126]⟩ : ByteArray) = l0 ++ List.replicate (i + 1 - l0.length) spareS ++ List.replicate (N - (i + 1)) ⟨#[]⟩ := by
                rw [fill_set _ _ _ _ _ (by simp; omega) (by omega), List.append_assoc l0, show i + 1 - l0.length = i - l0.length + 1 by omega, List.replicate_succ']
                rfl
              simp only [Int.toNat_natCast] at hx0 hf0 HP
              rw [hset] at HP
              clear hset hlen
              go_wp2_with (first | ((with_reducible refine gate_store (t := 9) (p := 44) rfl ?_); refine store_event (t := 9) (p := 44) (v := ?vo2) (w1 := (wr.setCell ⟨go, i, none⟩ (.string (⟨#[126, 115, 112, 97, 114, 101, 126]⟩ : ByteArray)))) ?hg ?ho ?hn ?hr ?_; (case ho => rfl); (case hg => rfl); (case hn => rfl); (case hr => first | (go_simp; done) | (go_simp; rfl)); intro w17 hw; have n0_ := Aside0.mk (show Kd.R Kd.string 9 w17 w.heap.size (fun _ => True) (.slice (some ⟨go, 0, none⟩) N co) _ from (by rw [hw]; exact HP.1)); have n1_ := Aside0.mk ((by rw [hw]; exact below_set (HB.out) GB.out : Below w.heap.size w w17)); clear HP HO HB; have HO := n0_; have HB := n1_; clear n0_ n1_; clear hw))
              go_roundg (N - (i + 1))
              case measure => have := HLT.out; omega
              case rel => exact ⟨i + 1, by go_num, by omega, HLT.out, by omega, HO, HB⟩
            · obtain rfl : i = N := by omega
              have hltz : ¬ (i : Int) < (i : Int) := by omega
              have hnb : 0 ≤ (l0.length : Int) := by omega
              have hle : (l0.length : Int) ≤ (i : Int) := by omega
              obtain ⟨i0, hi0, _, hsz, _⟩ := info_parts info9
              have hcut := cut_to (P := Try.prog) 30 9 .i64 Try.underlying30 hi0 Ao i co (l0.length : Int) hnb hle (Kd.R_reads' HO.out).2.1
              simp only [Int.toNat_natCast] at hcut
              have hlen : (l0 ++ List.replicate (i - l0.length) spareS ++ List.replicate (i - i) (⟨#[]⟩ : ByteArray)) = l0 ++ List.replicate (room l0.length) spareS := by have := HN.out; rw [show i - l0.length = room l0.length by omega]; simp
              rw [hlen] at HO
              clear hlen hi0 hsz
              go_wp2
              go_ret
              have hF := HF2.out
              subst hF
              refine ⟨Ao, co, rfl, ?_⟩
              have h2 := HN.out
              simp only [List.length_append, List.length_replicate, h2]
              exact ⟨by omega, Kd.R_mono (Kd.R_bound HO.out) (fun k hk => hk.2.1), HB.out⟩
end Go.Proofs.Ytfnhjaiioojbkaa.Q
end
section
namespace Go.Proofs.Ytfnhjaiioojbkaa.Q
open Go.RowKit Go.Proofs.YtfnhjaiioojbkaaW.PrintWords Go.Proofs.YtfnhjaiioojbkaaW.PrintLast Go.Proofs.YtfnhjaiioojbkaaW.PrintMore
attribute [local go_sem] max2_int min2_int max_two min_two max_three min_three max_four min_four
set_option linter.unusedVariables false
set_option linter.unusedSimpArgs false
section
variable {P : Program}
theorem up_to (t e : TypeId) (kh : IntKind) {i : TypeInfo} (ht : P.underlying t = some (.slice e)) (hi : P.info? e = some i) (A : Option Addr) (n c : Nat) (j : Int) (h0 : 0 ≤ j) (hm : j ≤ c) :
    ∀ W : World, (Instr.slice t (.slice A n c) none (some (.int kh j)) none).run P W = .ok (.slice A j.toNat c) W := by
  intro W
  have hel : P.elem t = e := by simp [Program.elem, ht]
  have hu : P.underlying t = some (.slice (P.elem t)) := by rw [hel]; exact ht
  have ha : (A.map fun x => x.add 0) = A := by cases A <;> simp [Addr.add]
  rw [Go.run_slice_h W t A n c hu kh j h0 hm, hel]
  simp [Go.sizeOf, Go.typeInfo, hi, Go.sliced, Go.Result.andThen, ha]
theorem up_mid (t e : TypeId) (kl kh : IntKind) {i : TypeInfo} (ht : P.underlying t = some (.slice e)) (hi : P.info? e = some i) (size : Nat) (hsz : i.size = size) (A : Option Addr) (n c : Nat) (lo hi' : Int) (h0 : 0 ≤ lo) (h1 : lo ≤ hi') (h2 : hi' ≤ c) :
    ∀ W : World, (Instr.slice t (.slice A n c) (some (.int kl lo)) (some (.int kh hi')) none).run P W = .ok (.slice (if c = lo.toNat then A else A.map (·.add (lo.toNat * size))) (hi'.toNat - lo.toNat) (c - lo.toNat)) W := by
  intro W
  have hel : P.elem t = e := by simp [Program.elem, ht]
  have hu : P.underlying t = some (.slice (P.elem t)) := by rw [hel]; exact ht
  rw [Go.run_slice_lh W t A n c hu kl kh lo hi' h0 h1 h2, hel]
  simp [Go.sizeOf, Go.typeInfo, hi, hsz, Go.sliced, Go.Result.andThen]
end
theorem eqS0_refl (l : List ByteArray) (hl : l.length ≤ 100000000) : ∀ (d i : Nat), l.length - i = d → i ≤ l.length → Ev (fun k => laws_eqStringS.l0 k l l i) true
  | 0, i, hd, hi => by
    refine Ev.step' ?_
    simp only [laws_eqStringS.l0]
    exact Ev.negf (by omega) (Ev.now _)
  | d + 1, i, hd, hi => by
    refine Ev.step' ?_
    simp only [laws_eqStringS.l0, w64_succ i (by omega)]
    exact Ev.posf (by omega) (Ev.posf (by omega) (Ev.posf (by omega) (Ev.posf trivial (eqS0_refl l hl d (i + 1) (by omega) (by omega)))))
theorem eqS_refl (l : List ByteArray) (hl : l.length ≤ 100000000) : Ev (fun k => laws_eqStringS.f k l l) true := by
  unfold laws_eqStringS.f
  exact Ev.posf rfl (eqS0_refl l hl _ 0 rfl (by omega))
def FulN (full n : Nat) : Prop := n + room n = full ∧ n ≤ 1000000
theorem room_le (n : Nat) : room n ≤ n + 1 := by
  unfold room
  split
  · omega
  · split <;> omega
set_option maxHeartbeats 4000000 in
theorem intS_calls (A B : Option Addr) (c d : Nat) (F : List ByteArray) (n : Nat) (w : World) (hx : Kd.C Kd.string w A F.length F) (hc : F.length ≤ c) (hy : Kd.C Kd.string w B F.length F) (hd : F.length ≤ d) (hF : FulN F.length n) :
    Calls Try.prog 30 #[.slice A n c, .slice B n d] w fun e w' => e = .returned (.bool true) ∧ Drawn0 w w' := by
  obtain ⟨h1, h2⟩ := hF
  have h3 := room_le n
  obtain ⟨K, hK⟩ := eqS_refl F (by omega)
  have HE := Aside0.mk (hK K (Nat.le_refl _))
  have HX := Aside0.mk hx
  have HY := Aside0.mk hy
  have HC := Aside0.mk hc
  have HD := Aside0.mk hd
  have hw : wrap64 ((n : Int) + (room n : Int)) = (F.length : Int) := by unfold wrap64; omega
  have hw2 : (IntKind.i64.wrap ((n : Int) + (room n : Int))) = (F.length : Int) := (i64_w _).trans hw
  have R9 := Aside0.mk (room_ev n)
  obtain ⟨i0, hi0, _, hsz, _⟩ := info_parts info9
  have hcutA := up_to (P := Try.prog) 30 9 .i64 Try.underlying30 hi0 A n c (F.length : Int) (by omega) (by omega)
  have hcutB := up_to (P := Try.prog) 30 9 .i64 Try.underlying30 hi0 B n d (F.length : Int) (by omega) (by omega)
  simp only [Int.toNat_natCast] at hcutA hcutB
  have e1 : ((n : Int) == (n : Int)) = true := by simp
  clear hK hx hy hc hd hi0 hsz h1 h3
  go_enter Try.func30, Try.ntmps30
  go_wp2_with (first | (go_at_call 62; (with_reducible refine (laws_roomBehind.calls (n : Int) _ _ R9.out).mono ?_); rintro e w' ⟨rfl, ⟨nd, rfl⟩⟩))
  have HX2 := Aside0.mk (Kd.C_below HX.out (Drawn0.mk ⟨nd, rfl⟩ : Drawn0 w (w.drewN nd)).below)
  have HY2 := Aside0.mk (Kd.C_below HY.out (Drawn0.mk ⟨nd, rfl⟩ : Drawn0 w (w.drewN nd)).below)
  have HW := Aside0.mk (Drawn0.mk ⟨nd, rfl⟩ : Drawn0 w (w.drewN nd))
  generalize World.drewN w nd = w2 at HX2 HY2 HW ⊢
  go_quiet ((go_at_call 36; exact quietD (fun W hW => laws_eqStringS.calls K _ _ F _ _ F true W (Kd.C_below HX2.out hW.below) HC.out (Kd.C_below HY2.out hW.below) HD.out HE.out)))
  have HW2 := Aside0.mk (HW.out.step nq)
  go_wp2
  go_ret
  exact ⟨rfl, HW2.out⟩
end Go.Proofs.Ytfnhjaiioojbkaa.Q
end
section
namespace Go.Proofs.Ytfnhjaiioojbkaa.Q
open Go.RowKit Go.Proofs.YtfnhjaiioojbkaaW.PrintWords
set_option linter.unusedVariables false
set_option linter.unusedSimpArgs false
def Big (l : Tx) : Prop := l.length ≤ 9223372036854775807 ∧ ∀ s ∈ l, s.size ≤ 9223372036854775807
theorem szS0_ev {l : Tx} (h : Big l) (hl : l.length ≤ 1000000) : ∀ (d i : Nat) (a : Int), l.length - i = d → i ≤ l.length → 0 ≤ a → a ≤ 1000000 →
    ∃ r, Ev (fun k => laws_szStringS.l0 k l a i) r ∧ -1 ≤ r ∧ r ≤ 1000000 ∧ (0 ≤ r → ∀ j (hj : j < l.length), i ≤ j → l[j].size ≤ 1000000)
  | 0, i, a, hd, hi, h0, h1 => by
    refine ⟨a, Ev.step' ?_, by omega, h1, fun _ j hj hij => absurd hj (by omega)⟩
    simp only [laws_szStringS.l0]
    exact Ev.negf (by omega) (Ev.now _)
  | d + 1, i, a, hd, hi, h0, h1 => by
    have hi' : i < l.length := by omega
    have hs := h.2 l[i] (List.getElem_mem hi')
    have hw : wrap64 (a - (l[i].size : Int)) = a - (l[i].size : Int) := w64 (by omega) (by omega)
    by_cases c : a - (l[i].size : Int) < 0
    · refine ⟨-1, Ev.step' ?_, by omega, by omega, fun hr => absurd hr (by omega)⟩
      simp only [laws_szStringS.l0, rdAt hi', hw]
      exact Ev.posf (by omega) (Ev.posf (by omega) (Ev.posf c (Ev.now _)))
    · obtain ⟨r, hr, r1, r2, r3⟩ := szS0_ev h hl d (i + 1) (a - (l[i].size : Int)) (by omega) (by omega) (by omega) (by omega)
      refine ⟨r, Ev.step' ?_, r1, r2, fun h0r j hj hij => ?_⟩
      · simp only [laws_szStringS.l0, rdAt hi', hw, w64_succ i (by omega)]
        exact Ev.posf (by omega) (Ev.posf (by omega) (Ev.negf c hr))
      · by_cases e : j = i
        · subst e; omega
        · exact r3 h0r j hj (by omega)
theorem szS_ev {l : Tx} (h : Big l) {a : Int} (h0 : 0 ≤ a) (h1 : a ≤ 1000000) : ∃ r, Ev (fun k => laws_szStringS.f k l a) r ∧ -1 ≤ r ∧ r ≤ 1000000 ∧ (0 ≤ r → Sm l) := by
  have hb := h.1
  have hw : wrap64 (a - (l.length : Int)) = a - (l.length : Int) := w64 (by omega) (by omega)
  unfold laws_szStringS.f
  by_cases c : a - (l.length : Int) < 0
  · exact ⟨-1, Ev.posf (by rw [hw]; exact c) (Ev.now _), by omega, by omega, fun hr => absurd hr (by omega)⟩
  · obtain ⟨r, hr, r1, r2, r3⟩ := szS0_ev h (by omega) _ 0 (a - (l.length : Int)) rfl (by omega) (by omega) (by omega)
    refine ⟨r, Ev.negf (by rw [hw]; exact c) (by rw [hw]; exact hr), r1, r2, fun h0r => ⟨by omega, fun s hs => ?_⟩⟩
    obtain ⟨j, hj, rfl⟩ := List.mem_iff_getElem.mp hs
    exact r3 h0r j hj (by omega)
theorem eqD0_refl (l : List Dl) (hl : l.length ≤ 100000000) (hx : ∀ x ∈ l, x.f2.length ≤ 100000000) : ∀ (d i : Nat), l.length - i = d → i ≤ l.length → Ev (fun k => laws_eqDeltaS.l0 k l l i) true
  | 0, i, hd, hi => by
    refine Ev.step' ?_
    simp only [laws_eqDeltaS.l0]
    exact Ev.negf (by omega) (Ev.now _)
  | d + 1, i, hd, hi => by
    have hi' : i < l.length := by omega
    refine Ev.step' ?_
    simp only [laws_eqDeltaS.l0, w64_succ i (by omega), rdD hi']
    refine Ev.posf (by omega) (Ev.posf (by omega) (Ev.posf (by omega) (Ev.bind (a := true) ?_ (Ev.posf rfl (eqD0_refl l hl hx d (i + 1) (by omega) (by omega))))))
    unfold laws_eqDelta.f
    exact Ev.posf rfl (Ev.posf rfl (Ev.bind (eqS_refl _ (hx _ (List.getElem_mem hi'))) (Ev.posf rfl (Ev.now _))))
theorem eqD_refl (l : List Dl) (hl : l.length ≤ 100000000) (hx : ∀ x ∈ l, x.f2.length ≤ 100000000) : Ev (fun k => laws_eqDeltaS.f k l l) true := by
  unfold laws_eqDeltaS.f
  exact Ev.posf rfl (eqD0_refl l hl hx _ 0 rfl (by omega))
end Go.Proofs.Ytfnhjaiioojbkaa.Q
end
section
namespace Go.Proofs.Ytfnhjaiioojbkaa.Q
open Go.RowKit Go.Proofs.YtfnhjaiioojbkaaW.PrintWords
set_option linter.unusedVariables false
set_option linter.unusedSimpArgs false
theorem list_of {α : Type} {p : Nat → α → Prop} : ∀ n, (∀ i, i < n → ∃ y, p i y) → ∃ l : List α, l.length = n ∧ ∀ i (hi : i < l.length), p i l[i]
  | 0, _ => ⟨[], rfl, fun i hi => absurd hi (by simp)⟩
  | n + 1, h => by
    obtain ⟨l, hl, hi⟩ := list_of n (fun i hi => h i (by omega))
    obtain ⟨y, hy⟩ := h n (by omega)
    refine ⟨l ++ [y], by simp [hl], fun i hlt => ?_⟩
    by_cases e : i < l.length
    · rw [List.getElem_append_left e]; exact hi i e
    · have : i = l.length := by simp at hlt; omega
      subst this
      rw [List.getElem_concat_length rfl, hl]; exact hy
section
variable {H : Type} {enc : TypeId × Value → H} {P : Program} {w : World} {base : Nat} {spare : Nat → Bool} {held : Bool}
/-- What is read at type t is of kind d, and G. -/
def Opens {α : Type} (enc : TypeId × Value → H) (P : Program) (w : World) (base : Nat) (spare : Nat → Bool) (held : Bool) (t : TypeId) (d : Kd α) (G : α → Prop) : Prop :=
  ∀ fuel cs x, DataW.trod enc P w base spare held fuel t cs = some x → ∃ a, d.K w a cs ∧ G a
theorem opens_string {t : TypeId} (ht : P.underlying t = some .string) : Opens enc P w base spare held t Kd.string (fun s => s.size ≤ 9223372036854775807) := fun fuel cs x h => by
  obtain ⟨s, h1, _, h2⟩ := DataW.trod_string ht h
  exact ⟨s, h1, h2⟩
theorem opens_slice {α : Type} {d : Kd α} {G : α → Prop} {t e : TypeId} (ht : P.underlying t = some (.slice e)) (hsz : P.cellsOf e = d.sz) (he : Opens enc P w base spare held e d G) :
    Opens enc P w base spare held t (Kd.slice e d) (fun l => l.length ≤ 9223372036854775807 ∧ ∀ a ∈ l, G a) := fun fuel cs x h => by
  rcases Go.Deep.open_slice ht h with ⟨rfl, _⟩ | ⟨a, len, cap, m, n, D, Pl, rfl, _, hl, hm, hmm, _, hx⟩
  · exact ⟨[], ⟨none, 0, rfl, Nat.le_refl _, ⟨rfl, by simp, fun h => absurd h (by simp)⟩⟩, by simp, fun a ha => by cases ha⟩
  · have hlm : len ≤ m := by rw [hmm]; split <;> omega
    have hxx : ∀ i, i < len → ∃ y : α, (∃ c, c.length = d.sz ∧ d.K w y c ∧ ∀ j u, c[j]? = some u → w.cell? (a.add (i * d.sz + j)) = some u) ∧ G y := fun i hi => by
      obtain ⟨c, h1, h2⟩ := hx i (by omega)
      obtain ⟨y, hy, hg⟩ := he _ _ _ h2
      obtain ⟨_, hcl, hcell⟩ := World.cells?_some h1
      rw [hsz] at hcl hcell
      refine ⟨y, ⟨c, hcl, hy, fun j u hu => ?_⟩, hg⟩
      have hj : j < d.sz := by
        have := (List.getElem?_eq_some_iff.mp hu).1
        omega
      have := hcell j hj
      rw [hu, Go.Deep.add_add] at this
      exact this
    obtain ⟨l, hll, hli⟩ := list_of len hxx
    have hm2 : cap ≤ 9223372036854775807 := hm
    refine ⟨l, ⟨some a, cap, by rw [hll], by omega, ⟨rfl, by omega, fun _ => ⟨a, rfl, fun j p hj => ?_⟩⟩⟩, by omega, fun p hp => ?_⟩
    · obtain ⟨hjl, rfl⟩ := List.getElem?_eq_some_iff.mp hj
      exact (hli j hjl).1
    · obtain ⟨j, hj, rfl⟩ := List.mem_iff_getElem.mp hp
      exact (hli j hj).2
end
section
variable {H : Type} {enc : TypeId × Value → H} {w : World} {base : Nat} {spare : Nat → Bool} {held : Bool}
set_option maxRecDepth 100000 in
theorem opens_strs : Opens enc Try.prog w base spare held 30 (Kd.slice 9 Kd.string) Big :=
  opens_slice Try.underlying30 (by kernel_rfl) (opens_string Try.underlying9)
/-- Of an argument's own value. -/
theorem opened {α : Type} {d : Kd α} {G : List α → Prop} {t e : TypeId} {A : Option Addr} {n c : Nat} {x : DataW H} {ps : List MemPlace} (ho : Opens enc Try.prog w base spare held t (Kd.slice e d) G)
    (h : DataW.Trod enc Try.prog w base spare held t (.slice A n c) x ps) : ∃ l : List α, n = l.length ∧ l.length ≤ c ∧ Kd.C d w A l.length l ∧ G l := by
  obtain ⟨fuel, hf⟩ := h
  obtain ⟨l, ⟨A2, c2, e2, hl, hC⟩, hg⟩ := ho fuel _ _ hf
  have e3 : [Value.slice A n c] = [.slice A2 l.length c2] := e2
  injection e3 with e4 _
  injection e4 with e5 e6 e7
  subst e5
  subst e7
  exact ⟨l, e6, hl, hC, hg⟩
end
end Go.Proofs.Ytfnhjaiioojbkaa.Q
end
section
namespace Go.Proofs.Ytfnhjaiioojbkaa.Q
open Go.RowKit Go.Proofs.YtfnhjaiioojbkaaW.PrintWords Go.Proofs.YtfnhjaiioojbkaaW.PrintLast Go.Proofs.YtfnhjaiioojbkaaW.PrintMore
attribute [local go_sem] max2_int min2_int max_two min_two max_three min_three max_four min_four
set_option linter.unusedVariables false
set_option linter.unusedSimpArgs false
/-- A fresh element is stored into a row that is older. -/
theorem S_putnew {α : Type} {d : Kd α} {e g n cap : Nat} {W w1 : World} {base : Nat} {ok : Nat → Prop} {xs : List α} (h : Kd.S d e W base ok (.slice (some ⟨g, 0, none⟩) n cap) xs) (hg : g < W.heap.size) (z : α) (i : Int) (h0 : 0 ≤ i) (h1 : i < n)
    {x' : α} {cs : List Value} (hM : d.M w1 W.heap.size (fun k => W.heap.size ≤ k) x' cs) (hb : Below W.heap.size W w1) (hbase : base ≤ W.heap.size) (hok : ∀ k, W.heap.size ≤ k → ok k) :
    ∃ c : List Value, c.length = d.sz ∧ (∀ j u, c[j]? = some u → w1.cell? ⟨g, i.toNat * d.sz + j, none⟩ = some u) ∧ (∀ j, w1.frozen? ⟨g, i.toNat * d.sz + j, none⟩ = false) ∧
      Kd.S d e (w1.setCells g (i.toNat * d.sz) cs) base ok (.slice (some ⟨g, 0, none⟩) n cap) (xs.set i.toNat x') ∧ w1.grownBy (w1.setCells g (i.toNat * d.sz) cs) (some g) := by
  have h2 : Kd.S d e w1 base (fun k => ok k ∧ ¬ W.heap.size ≤ k) (.slice (some ⟨g, 0, none⟩) n cap) xs :=
    Kd.S_below (Kd.S_mono (Kd.S_bound h) (fun k hk => ⟨hk.1, Nat.not_le.mpr hk.2.2.1⟩)) hb
  obtain ⟨oki, c, hcl, _, hcc, hfr, hoki, hH⟩ := Kd.S_elem h2 z i h0 h1
  have hl : cs.length = d.sz := d.K_len (d.K_of_M hM)
  obtain ⟨p1, p2⟩ := Kd.S_seg (okp := fun k => W.heap.size ≤ k) hH h0 h1 (seg := cs) (j := 0) (by omega) (x' := x') (by
    have e : c.take 0 ++ cs ++ c.drop (0 + cs.length) = cs := by rw [Nat.zero_add, hl, ← hcl]; simp
    rw [e]
    exact d.M_lower hbase hM) (fun k hk => .inr hk) (fun k hk => ⟨hok k hk, by omega⟩)
  exact ⟨c, hcl, hcc, hfr, p1, p2⟩
end Go.Proofs.Ytfnhjaiioojbkaa.Q
end
section
namespace Go.Proofs.Ytfnhjaiioojbkaa.Q
open Go.RowKit Go.Proofs.YtfnhjaiioojbkaaW.PrintWords Go.Proofs.YtfnhjaiioojbkaaW.PrintLast Go.Proofs.YtfnhjaiioojbkaaW.PrintMore
attribute [local go_sem] max2_int min2_int max_two min_two max_three min_three max_four min_four
set_option linter.unusedVariables false
set_option linter.unusedSimpArgs false
def kSS : Kd (List ByteArray × Nat) := fsl 9 Kd.string
theorem kSS_mk {w : World} {base : Nat} {ok : Nat → Prop} {F : List ByteArray × Nat} {A : Option Addr} {c : Nat} (hn : F.2 ≤ F.1.length) (h : Kd.R Kd.string 9 w base ok (.slice A F.1.length c) F.1) : kSS.M w base ok F [.slice A F.2 c] := ⟨A, c, rfl, hn, h⟩
def zSS : List ByteArray × Nat := ([], 0)
def fillSS : List ByteArray × Nat := ([spareS], 1)
def fulSS (b : Bool) (l : List (List ByteArray)) : List (List ByteArray × Nat) × Nat := if b = true ∧ l = [] then ([], 0) else (l.map (fulS b) ++ List.replicate (room l.length) fillSS, l.length)
set_option maxHeartbeats 4000000 in
set_option maxRecDepth 100000 in
theorem toSS_calls (A0 : Option Addr) (c0 : Nat) (l0 : List (List ByteArray)) (b : Bool) (w : World) (hr0 : Kd.C (Kd.slice 9 Kd.string) w A0 l0.length l0) (hl : l0.length ≤ 1000000) (hx : ∀ x ∈ l0, x.length ≤ 1000000) :
    Calls Try.prog 54 #[.slice A0 l0.length c0, .bool b] w fun e w' => ∃ A c, e = .returned (.slice A (fulSS b l0).2 c) ∧ (fulSS b l0).2 ≤ (fulSS b l0).1.length ∧
      Kd.S kSS 30 w' w.heap.size (fun k => w.heap.size ≤ k) (.slice A (fulSS b l0).1.length c) (fulSS b l0).1 ∧ Below w.heap.size w w' := by
  have HR0 := Aside0.mk hr0
  have HL := Aside0.mk hl
  have HX := Aside0.mk hx
  have HB := Aside0.mk (Below.refl w.heap.size w)
  clear hr0 hl hx
  obtain ⟨F, hF⟩ : ∃ F, fulSS b l0 = F := ⟨_, rfl⟩
  rw [hF]
  have HF := Aside0.mk hF
  clear hF
  go_enter Try.func54, Try.ntmps54
  go_upto_region 1 with (fail)
  go_cut [13] (fun v13 wc => v13 = .bool (b && ((l0.length : Int) == 0)) ∧ Aside0 (Below w.heap.size w wc))
  case first =>
    cases b
    · go_wp2
      go_meet
      case rel => exact ⟨rfl, ⟨by repeat (first | (with_reducible first | exact HB.out | apply below_alloc | apply pw_below_drewN | apply below_drew1) | exact HB.out)⟩⟩
    · go_wp2
      go_meet
      case rel => exact ⟨rfl, ⟨by repeat (first | (with_reducible first | exact HB.out | apply below_alloc | apply pw_below_drewN | apply below_drew1) | exact HB.out)⟩⟩
  case rest =>
    clear HB
    obtain ⟨rfl, HB⟩ := hcut
    by_cases hb : b = true ∧ l0 = []
    · have hf : fulSS b l0 = ([], 0) := if_pos hb
      have hF := HF.out.symm.trans hf
      subst hF
      obtain ⟨rfl, rfl⟩ := hb
      go_wp2
      go_ret
      exact ⟨none, 0, rfl, Kd.S_nil _ _ _ _ _, HB.out⟩
    · have hf : fulSS b l0 = (l0.map (fulS b) ++ List.replicate (room l0.length) fillSS, l0.length) := if_neg hb
      have HF2 := Aside0.mk (HF.out.symm.trans hf)
      have hc : (b && ((l0.length : Int) == 0)) = false := by
        cases b
        · rfl
        · simp only [Bool.true_and, beq_eq_false_iff_ne, ne_eq]
          intro h
          exact hb ⟨rfl, List.length_eq_zero_iff.mp (by omega)⟩
      rw [hc]
      clear hc hb hf HF
      have hrl := room_le l0.length
      obtain ⟨N, hN⟩ : ∃ N, l0.length + room l0.length = N := ⟨_, rfl⟩
      have HN := Aside0.mk hN
      have HNb := Aside0.mk (show N ≤ 2000001 by have := HL.out; omega)
      have hw : wrap64 ((l0.length : Int) + (room l0.length : Int)) = (N : Int) := by
        have := HL.out
        unfold wrap64; omega
      have hw2 : (IntKind.i64.wrap ((l0.length : Int) + (room l0.length : Int))) = (N : Int) := (i64_w _).trans hw
      have hN2 : (N : Int).toNat ≤ 11728124029610 := by have := HL.out; omega
      have h0 : 0 ≤ (N : Int) := by omega
      have R9 := Aside0.mk (room_ev l0.length)
      clear hrl hN
      go_wp2_with (first | ((with_reducible refine gate_callee (f := 62) rfl ?_); refine goesL_ (some 18) rfl rfl Try.func62 (by kernel_rfl) rfl #[.int .i64 (l0.length : Int)] rfl (by (try simp only [List.map_toArray, List.map_cons, List.map_nil]); first | done | rfl) ?_; (with_reducible refine (laws_roomBehind.calls (l0.length : Int) _ _ R9.out).mono ?_); rintro e w' ⟨rfl, ⟨nd, rfl⟩⟩; refine ⟨_, rfl, ?_⟩) | ((with_reducible refine gate_dst (N := 20) rfl ?_); (try (refine gate_guard (by rfl) ?_; dsimp only)); refine Kd.S_make kSS _ 30 rfl (N := 20) rfl 57 _ _ rfl (N : Int) rfl rfl Try.underlying57 (.slice none 0 0) 24 info30 rfl (by decide) (by omega) zSS (ok := fun _ => True) (okp := fun _ => True) (kSS_mk (Nat.le_refl _) (Kd.R_nil _ _ _ _ _)) (fun _ hk => hk) trivial h0 (Nat.le_trans (Nat.mul_le_mul_right _ hN2) (by omega)) (Below.refl _ _) (Nat.le_refl _) ?_; intro v111 w10 ho11 hb hg_ hnew_; clear hg_ hnew_; have n0_ := Aside0.mk (Kd.S_lower ho11 (below_size (by repeat (first | (with_reducible first | exact HB.out | apply below_alloc | apply pw_below_drewN | apply below_drew1) | exact HB.out)))); have n1_ := Aside0.mk (below_step (by repeat (first | (with_reducible first | exact HB.out | apply below_alloc | apply pw_below_drewN | apply below_drew1) | exact HB.out)) hb); clear HB; have HO := n0_; have HB := n1_; clear n0_ n1_; clear hb ho11))
      clear hw hw2 hN2 h0 R9
      rw [show List.replicate (N : Int).toNat zSS = (l0.take 0).map (fulS b) ++ List.replicate (N - 0) zSS by simp] at HO
      obtain ⟨Ao, co, eo⟩ := Kd.S_slice HO.out
      subst eo
      rw [show ((l0.take 0).map (fulS b) ++ List.replicate (N - 0) zSS).length = N by simp] at HO ⊢
      go_loopg [6] l0.length (fun gg v6 wr => ∃ i : Nat, v6 = .int .i64 i ∧ i ≤ l0.length ∧ l0.length - i ≤ gg ∧ Aside0 (Kd.S kSS 30 wr w.heap.size (fun _ => True) (.slice Ao N co) ((l0.take i).map (fulS b) ++ List.replicate (N - i) zSS)) ∧ Aside0 (Below w.heap.size w wr))
      case atStart => exact ⟨0, rfl, Nat.zero_le _, by omega, HO, HB⟩
      case round =>
        clear HO HB
        obtain ⟨i, rfl, hi, hg, HO, HB⟩ := hrel
        by_cases hlt : i < l0.length
        · have HLT := Aside0.mk hlt
          have hib : i ≤ 1000000 := by have := HL.out; omega
          have hlN : i < N := by have := HN.out; omega
          have hltz : (i : Int) < (l0.length : Int) := by omega
          have hlen : ((l0.take i).map (fulS b) ++ List.replicate (N - i) zSS).length = N := by simp; omega
          obtain ⟨ad, A2, c2, rfl, hx0, hl2, hi2⟩ := at_L2 HR0.out (i : Int) (by omega) hltz
          replace hx0 := (HB.out.cell (World.block_lt_of_cell? w _ hx0)).trans hx0
          have HI2 := Aside0.mk (Kd.C_below hi2 HB.out)
          have hrd : rd_L2 l0 (i : Int) = l0[i] := by simp [rd_L2, List.getD_eq_getElem?_getD, hlt]
          have HX2 := Aside0.mk (show (rd_L2 l0 (i : Int)).length ≤ 1000000 by rw [hrd]; exact HX.out _ (List.getElem_mem hlt))
          obtain ⟨go, co', eo, gb, gl, cl, HG⟩ := Kd.S_form HO.out (by omega)
          injection eo with ea en ec
          subst ea
          subst ec
          have GB := Aside0.mk gb
          have GL := Aside0.mk gl
          clear gb gl HG en hi2 hl2
          have hNz : (i : Int) < (N : Int) := by omega
          have h0 : 0 ≤ (i : Int) := by omega
          have hset : ((l0.take i).map (fulS b) ++ List.replicate (N - i) zSS).set i (fulS b (rd_L2 l0 (i : Int))) = (l0.take (i + 1)).map (fulS b) ++ List.replicate (N - (i + 1)) zSS := by
            rw [fill_set _ _ _ _ _ (by simp; omega) (by omega), hrd, ← List.take_append_getElem hlt]
            simp only [List.map_append, List.map_cons, List.map_nil]
            rfl
          have HS := Aside0.mk hset
          simp only [Int.toNat_natCast] at hx0
          clear hset hlen hrd
          go_wp2_with (first | ((with_reducible refine gate_callee (f := 28) rfl ?_); refine goesL_ (some 34) rfl rfl Try.func28 (by kernel_rfl) rfl #[.slice A2 (rd_L2 l0 (i : Int)).length c2, .bool b] rfl (by (try simp only [List.map_toArray, List.map_cons, List.map_nil]); first | done | rfl) ?_; (refine (toS_calls A2 c2 (rd_L2 l0 (i : Int)) b _ ?side1 HX2.out).mono ?_); (case side1 => repeat (first | exact HI2.out | (with_reducible refine Kd.C_alloc ?_ _) | (with_reducible refine Kd.C_drewN ?_ _) | (with_reducible refine Kd.C_drew ?_))); rintro e w17 ⟨A3, c3, rfl, hle, ho0, hb⟩; refine ⟨_, rfl, ?_⟩; obtain ⟨cc, hcl, hcc, hfr, p1, p2⟩ := S_putnew (by (with_reducible repeat (first | apply Kd.S_alloc | apply Kd.S_drewN | apply Kd.S_drew)); exact HO.out) (by exact GL.out) zSS (i : Int) h0 hNz (kSS_mk (F := (fulS b (rd_L2 l0 (i : Int)))) hle ho0) hb (below_size (by repeat (first | (with_reducible first | exact HB.out | apply below_alloc | apply pw_below_drewN | apply below_drew1) | exact HB.out))) (fun _ _ => trivial); obtain ⟨u0, rfl⟩ : ∃ u0, cc = [u0] := (by match cc, hcl with | [u0], _ => exact ⟨u0, rfl⟩); have hz0 := hcc 0 _ rfl; have hf0 := hfr 0; simp only [show kSS.sz = 1 from rfl, Int.toNat_natCast, Nat.add_zero, Nat.mul_one] at hz0 hf0; have P1 := Aside0.mk (show Kd.S kSS 30 (w17.setCells go i _) w.heap.size (fun _ => True) (.slice (some ⟨go, 0, none⟩) N co) ((l0.take (i + 1)).map (fulS b) ++ List.replicate (N - (i + 1)) zSS) from (by simp only [show kSS.sz = 1 from rfl, Int.toNat_natCast, Nat.mul_one] at p1; rw [← HS.out]; exact p1)); have HB2 := Aside0.mk (below_step (by repeat (first | (with_reducible first | exact HB.out | apply below_alloc | apply pw_below_drewN | apply below_drew1) | exact HB.out)) hb); clear HB hcc hfr p1 p2 hb ho0 hle; have HB := HB2; clear HB2) | ((with_reducible refine gate_store (t := 30) (p := 35) rfl ?_); refine store_event (t := 30) (p := 35) (v := ?vo1) (w1 := (w17.setCell ⟨go, i, none⟩ (.slice A3 (fulS b (rd_L2 l0 (i : Int))).2 c3))) ?hg ?ho ?hn ?hr ?_; (case ho => rfl); (case hg => rfl); (case hn => rfl); (case hr => first | (go_simp; done) | (go_simp; rfl)); intro w18 hw; have n0_ := Aside0.mk (show Kd.S kSS 30 w18 w.heap.size (fun _ => True) (.slice (some ⟨go, 0, none⟩) N co) ((l0.take (i + 1)).map (fulS b) ++ List.replicate (N - (i + 1)) zSS) from (by rw [hw]; exact P1.out)); have n1_ := Aside0.mk ((by rw [hw]; exact below_set (HB.out) GB.out : Below w.heap.size w w18)); clear P1 HO HB; have HO := n0_; have HB := n1_; clear n0_ n1_; clear hw))
          go_roundg (l0.length - (i + 1))
          case measure => have := HLT.out; omega
          case rel => exact ⟨i + 1, by go_num, HLT.out, by omega, HO, HB⟩
        · obtain rfl : i = l0.length := by omega
          have hltz : ¬ (l0.length : Int) < (l0.length : Int) := by omega
          rw [List.take_length] at HO
          have HO2 : Aside0 (Kd.S kSS 30 wr w.heap.size (fun _ => True) (.slice Ao N co) (l0.map (fulS b) ++ List.replicate (l0.length - l0.length) fillSS ++ List.replicate (N - l0.length) zSS)) := ⟨by rw [Nat.sub_self]; simpa using HO.out⟩
          clear HO
          go_wp2
          go_loopg [7] N (fun gg v7 wr => ∃ i : Nat, v7 = .int .i64 i ∧ l0.length ≤ i ∧ i ≤ N ∧ N - i ≤ gg ∧ Aside0 (Kd.S kSS 30 wr w.heap.size (fun _ => True) (.slice Ao N co) (l0.map (fulS b) ++ List.replicate (i - l0.length) fillSS ++ List.replicate (N - i) zSS)) ∧ Aside0 (Below w.heap.size w wr))
          case atStart => exact ⟨l0.length, rfl, Nat.le_refl _, by have := HN.out; omega, by omega, HO2, HB⟩
          case round =>
            clear HO2 HB hltz hg hi
            obtain ⟨i, rfl, hi, hiN, hg, HO, HB⟩ := hrel
            by_cases hlt : i < N
            · have HLT := Aside0.mk hlt
              have hib : i ≤ 2000001 := by have := HNb.out; omega
              have hlen : (l0.map (fulS b) ++ List.replicate (i - l0.length) fillSS ++ List.replicate (N - i) zSS).length = N := by simp; omega
              obtain ⟨go, co', eo, gb, gl, cl, HG⟩ := Kd.S_form HO.out (by omega)
              injection eo with ea en ec
              subst ea
              subst ec
              have GB := Aside0.mk gb
              have GL := Aside0.mk gl
              clear gb gl HG en
              have hNz : (i : Int) < (N : Int) := by omega
              have h0 : 0 ≤ (i : Int) := by omega
              have hset : (l0.map (fulS b) ++ List.replicate (i - l0.length) fillSS ++ List.replicate (N - i) zSS).set i fillSS = l0.map (fulS b) ++ List.replicate (i + 1 - l0.length) fillSS ++ List.replicate (N - (i + 1)) zSS := by
                rw [fill_set _ _ _ _ _ (by simp; omega) (by omega), List.append_assoc (l0.map (fulS b)), show i + 1 - l0.length = i - l0.length + 1 by omega, List.replicate_succ']
                rfl
              have HS := Aside0.mk hset
              clear hset hlen
              go_wp2_with (first | ((with_reducible refine gate_dst (N := 46) rfl ?_); (try (refine gate_guard (by rfl) ?_; dsimp only)); refine Kd.R_lit Kd.string _ 9 ?hg (N := 46) ?hd (xs := [spareS]) (inner := [.string (⟨#[126, 115, 112, 97, 114, 101, 126]⟩ : ByteArray)]) (ok := fun _ => True) (okp := fun _ => True) ?hr ?hp (fun _ hk => hk) trivial (Below.refl _ _) (Nat.le_refl _) (by simp) ?_; (case hd => rfl); (case hg => rfl); (case hr => first | (go_simp; done) | (go_simp; rfl)); (case hp => exact (Reps.one (show Kd.M Kd.string _ _ _ spareS [.string (⟨#[126, 115, 112, 97, 114, 101, 126]⟩ : ByteArray)] from rfl) (Reps.none _ _))); intro v3_ w17 hr0_ hb hg_ hnew_; clear hg_ hnew_; obtain ⟨A3, c3, ev_⟩ := Kd.R_slice hr0_; subst ev_; have ho0 : Kd.R Kd.string 9 w17 _ _ (.slice A3 ([spareS], 1).1.length c3) ([spareS], 1).1 := Kd.R_mono (Kd.R_bound hr0_) (fun k hk => hk.2.1); have hle : ([spareS], 1).2 ≤ ([spareS], 1).1.length := Nat.le_refl _; obtain ⟨cc, hcl, hcc, hfr, p1, p2⟩ := S_putnew (by (with_reducible repeat (first | apply Kd.S_alloc | apply Kd.S_drewN | apply Kd.S_drew)); exact HO.out) (by exact GL.out) zSS (i : Int) h0 hNz (kSS_mk (F := ([spareS], 1)) hle ho0) hb (below_size (by repeat (first | (with_reducible first | exact HB.out | apply below_alloc | apply pw_below_drewN | apply below_drew1) | exact HB.out))) (fun _ _ => trivial); obtain ⟨u0, rfl⟩ : ∃ u0, cc = [u0] := (by match cc, hcl with | [u0], _ => exact ⟨u0, rfl⟩); have hz0 := hcc 0 _ rfl; have hf0 := hfr 0; simp only [show kSS.sz = 1 from rfl, Int.toNat_natCast, Nat.add_zero, Nat.mul_one] at hz0 hf0; have P1 := Aside0.mk (show Kd.S kSS 30 (w17.setCells go i _) w.heap.size (fun _ => True) (.slice (some ⟨go, 0, none⟩) N co) (l0.map (fulS b) ++ List.replicate (i + 1 - l0.length) fillSS ++ List.replicate (N - (i + 1)) zSS) from (by simp only [show kSS.sz = 1 from rfl, Int.toNat_natCast, Nat.mul_one] at p1; rw [← HS.out]; exact p1)); have HB2 := Aside0.mk (below_step (by repeat (first | (with_reducible first | exact HB.out | apply below_alloc | apply pw_below_drewN | apply below_drew1) | exact HB.out)) hb); clear HB hcc hfr p1 p2 hb ho0 hle hr0_; have HB := HB2; clear HB2) | ((with_reducible refine gate_store (t := 30) (p := 47) rfl ?_); refine store_event (t := 30) (p := 47) (v := ?vo2) (w1 := (w17.setCell ⟨go, i, none⟩ (.slice A3 ([spareS], 1).2 c3))) ?hg ?ho ?hn ?hr ?_; (case ho => rfl); (case hg => rfl); (case hn => rfl); (case hr => first | (go_simp; done) | (go_simp; rfl)); intro w18 hw; have n0_ := Aside0.mk (show Kd.S kSS 30 w18 w.heap.size (fun _ => True) (.slice (some ⟨go, 0, none⟩) N co) (l0.map (fulS b) ++ List.replicate (i + 1 - l0.length) fillSS ++ List.replicate (N - (i + 1)) zSS) from (by rw [hw]; exact P1.out)); have n1_ := Aside0.mk ((by rw [hw]; exact below_set (HB.out) GB.out : Below w.heap.size w w18)); clear P1 HO HB; have HO := n0_; have HB := n1_; clear n0_ n1_; clear hw))
              go_roundg (N - (i + 1))
              case measure => have := HLT.out; omega
              case rel => exact ⟨i + 1, by go_num, by omega, HLT.out, by omega, HO, HB⟩
            · obtain rfl : i = N := by omega
              have hltz : ¬ (i : Int) < (i : Int) := by omega
              have hnb : 0 ≤ (l0.length : Int) := by omega
              have hle : (l0.length : Int) ≤ (i : Int) := by omega
              obtain ⟨i0, hi0, _, hsz, _⟩ := info_parts info30
              have hcut := cut_to (P := Try.prog) 57 30 .i64 Try.underlying57 hi0 Ao i co (l0.length : Int) hnb hle (Kd.S_reads' HO.out).2.1
              simp only [Int.toNat_natCast] at hcut
              have hlen : (l0.map (fulS b) ++ List.replicate (i - l0.length) fillSS ++ List.replicate (i - i) zSS) = l0.map (fulS b) ++ List.replicate (room l0.length) fillSS := by have := HN.out; rw [show i - l0.length = room l0.length by omega]; simp
              rw [hlen] at HO
              clear hlen hi0 hsz
              go_wp2
              go_ret
              have hF := HF2.out
              subst hF
              refine ⟨Ao, co, rfl, ?_⟩
              have h2 := HN.out
              simp only [List.length_append, List.length_replicate, List.length_map, h2]
              exact ⟨by omega, Kd.S_mono (Kd.S_bound HO.out) (fun k hk => hk.2.1), HB.out⟩
end Go.Proofs.Ytfnhjaiioojbkaa.Q
end
section
namespace Go.Proofs.Ytfnhjaiioojbkaa.Q
open Go.RowKit Go.Proofs.YtfnhjaiioojbkaaW.PrintWords Go.Proofs.YtfnhjaiioojbkaaW.PrintLast Go.Proofs.YtfnhjaiioojbkaaW.PrintMore
attribute [local go_sem] max2_int min2_int max_two min_two max_three min_three max_four min_four
set_option linter.unusedVariables false
set_option linter.unusedSimpArgs false
theorem C_map {α β : Type} {d : Kd α} {d' : Kd β} {f : α → β} (hs : d'.sz = d.sz) (hf : ∀ w x cs, d.K w x cs → d'.K w (f x) cs) {w : World} {A : Option Addr} {n m : Nat} {xs : List α} (h : d.C w A n xs) (hm : m = n) : d'.C w A m (xs.map f) := by
  subst hm
  refine ⟨by rw [List.length_map]; exact h.1, h.2.1, fun hn => ?_⟩
  obtain ⟨ad, e, hc⟩ := h.2.2 hn
  refine ⟨ad, e, fun j p hj => ?_⟩
  rw [List.getElem?_map] at hj
  obtain ⟨q, hq, rfl⟩ := Option.map_eq_some_iff.mp hj
  obtain ⟨c, h1, h2, h3⟩ := hc j q hq
  exact ⟨c, by rw [hs]; exact h1, hf _ _ _ h2, by rw [hs]; exact h3⟩
theorem fsl_plain {α : Type} {d : Kd α} {e : Nat} {w : World} {x : List α × Nat} {cs : List Value} (h : (fsl e d).K w x cs) : (Kd.slice e d).K w (x.1.take x.2) cs := by
  obtain ⟨A, c, rfl, hn, hl, hC⟩ := h
  have e1 : (x.1.take x.2).length = x.2 := by rw [List.length_take]; omega
  exact ⟨A, c, by rw [e1], by omega, Kd.C_take hC hn⟩
end Go.Proofs.Ytfnhjaiioojbkaa.Q
end
section
namespace Go.Proofs.Ytfnhjaiioojbkaa.Q
open Go.RowKit Go.Proofs.YtfnhjaiioojbkaaW.PrintWords Go.Proofs.YtfnhjaiioojbkaaW.PrintLast Go.Proofs.YtfnhjaiioojbkaaW.PrintMore
attribute [local go_sem] max2_int min2_int max_two min_two max_three min_three max_four min_four
set_option linter.unusedVariables false
set_option linter.unusedSimpArgs false
theorem fulS_take (b : Bool) (l : Tx) : (fulS b l).1.take (fulS b l).2 = l := by
  unfold fulS
  split
  case isTrue h => rw [h.2]; rfl
  case isFalse h => simp
theorem fulS_ful (l : Tx) (h : l.length ≤ 1000000) : FulN (fulS false l).1.length (fulS false l).2 := by
  unfold fulS
  rw [if_neg (fun h => by cases h.1)]
  exact ⟨by simp, h⟩
end Go.Proofs.Ytfnhjaiioojbkaa.Q
end
section
namespace Go.Proofs.Ytfnhjaiioojbkaa.Q
open Go.RowKit Go.Proofs.YtfnhjaiioojbkaaW.PrintWords Go.Proofs.YtfnhjaiioojbkaaW.PrintLast Go.Proofs.YtfnhjaiioojbkaaW.PrintMore
attribute [local go_sem] max2_int min2_int max_two min_two max_three min_three max_four min_four   -- for this text's walks alone
set_option linter.unusedVariables false
set_option linter.unusedSimpArgs false
def laws_markText.l0 : Nat → Int → ByteArray → Option (ByteArray)
 | 0, _, _ => none
 | k + 1, x0, x3 => if x0 > 0 then ((some (([(wrap64 (48 + (Int.tmod x0 10))) % 256] : List Int) : List Int)).bind fun y491 => (if (strOfNums y491).size + x3.size ≤ 9223372036854775807 then (laws_markText.l0 k (wrap64 (Int.tdiv x0 10)) ((strOfNums y491) ++ x3)) else (none))) else (if 1 + x3.size ≤ 9223372036854775807 then (some ((⟨#[109]⟩ : ByteArray) ++ x3)) else (none))
def laws_markText.f (k : Nat) (a0 : Int) : Option (ByteArray) := if a0 ≤ 0 then (some (⟨#[109, 48]⟩ : ByteArray)) else (laws_markText.l0 k a0 (⟨#[]⟩ : ByteArray))
set_option maxHeartbeats 8000000 in
set_option maxRecDepth 100000 in
theorem laws_markText.calls (k : Nat) (a0 : Int) (r : ByteArray) (w : World) (h : laws_markText.f k a0 = some r) :
 Calls Try.prog 77 #[.int .i64 a0] w fun e w' => e = .returned (.string r) ∧ Below w.heap.size w w' := by
 have HB := Aside0.mk (Below.refl w.heap.size w); have H : (if a0 ≤ 0 then (some (⟨#[109, 48]⟩ : ByteArray)) else (laws_markText.l0 k a0 (⟨#[]⟩ : ByteArray))) = some r := h; clear h; by_cases c2 : a0 ≤ 0
 ·rw [if_pos c2] at H; have c2b0 : decide (a0 ≤ 0) = true := decide_eq_true c2; clear c2; obtain rfl := Option.some.inj H; go_enter Try.func77, Try.ntmps77; go_wp2; go_ret; exact ⟨by first | rfl | (simp <;> rfl) | (simp [*] <;> rfl), by repeat (first | (with_reducible first | exact HB.out | apply below_alloc | apply pw_below_drewN | apply below_drew1) | exact HB.out)⟩
 ·rw [if_neg c2] at H; have c2b0 : decide (a0 ≤ 0) = false := decide_eq_false c2; clear c2; have H' := Aside0.mk H; clear H; go_enter Try.func77, Try.ntmps77; go_wp2; go_loopg [0, 3] k (fun kq v0 v3 w' => ∃ (x0_1 : Int) (x3_1 : ByteArray), v0 = .int .i64 x0_1 ∧ v3 = .string x3_1 ∧ Aside0 (laws_markText.l0 kq x0_1 x3_1 = some r) ∧ Aside0 (kq ≤ k) ∧ Aside0 (Below w.heap.size w w'))
  case atStart => exact ⟨(a0), ((⟨#[]⟩ : ByteArray)), (by first | rfl | (simp; done) | (simp [*]; done)), (by first | rfl | (simp; done) | (simp [*]; done)), H', ⟨Nat.le_refl _⟩, ⟨by repeat (first | (with_reducible first | exact HB.out | apply below_alloc | apply pw_below_drewN | apply below_drew1) | exact HB.out)⟩⟩
  case round =>
   clear H'; (try clear c2); (try clear c2b0); (try clear p2); obtain ⟨x0_1, x3_1, rfl, rfl, HA, HK1, HB⟩ := hrel
   cases gk with
   | zero => exact absurd HA.out (by simp [laws_markText.l0])
   | succ k1 =>
    have H := HA.out; clear HA; simp only [laws_markText.l0] at H; by_cases c3 : x0_1 > 0
    ·rw [if_pos c3] at H; have c3b0 : decide (0 < x0_1) = true := decide_eq_true c3; clear c3; obtain ⟨y491, hy491⟩ : ∃ y_ : List Int, y_ = (([(wrap64 (48 + (Int.tmod x0_1 10))) % 256] : List Int)) := ⟨_, rfl⟩; (replace H : (if (strOfNums y491).size + x3_1.size ≤ 9223372036854775807 then (laws_markText.l0 k1 (wrap64 (Int.tdiv x0_1 10)) ((strOfNums y491) ++ x3_1)) else (none)) = some r := by first | (rw [hy491]; with_reducible exact H) | (have H2_ := (Option.bind_some _ _).symm.trans H; rw [hy491]; with_reducible exact H2_) | (have H2_ := (Option.bind_some _ _).symm.trans H; with_reducible exact H2_) | with_reducible exact H | (rw [hy491]; exact H) | exact H); have Ny491 := Aside0.mk hy491; clear hy491; by_cases c4 : (strOfNums y491).size + x3_1.size ≤ 9223372036854775807
     ·rw [if_pos c4] at H; have c4b0 := eq_true c4; have c4b1 : decide ((strOfNums y491).size + x3_1.size ≤ 9223372036854775807) = true := decide_eq_true c4; (try have c4b2 : (9223372036854775807 < (strOfNums y491).size + x3_1.size) = False := eq_false (Nat.not_lt.2 c4)); have H' := Aside0.mk H; clear H; go_wp2_with (first | ((with_reducible refine gate_dst (N := 12) rfl ?_); refine Kd.R_lit (Kd.int .u8) _ 5 ?hg (N := 12) ?hd (xs := ([(wrap64 (48 + (Int.tmod x0_1 10))) % 256] : List Int)) (inner := [.int .u8 ((wrap64 (48 + (Int.tmod x0_1 10))) % 256)]) (ok := fun _ => True) (okp := fun _ => True) ?hr ?hp (fun _ hk => hk) trivial (Below.refl _ _) (Nat.le_refl _) (by simp) ?_; (case hd => rfl); (case hg => rfl); (case hr => first | (go_simp; done) | (go_simp; rfl)); (case hp => exact (Reps.one (show Kd.M (Kd.int .u8) _ _ _ ((wrap64 (48 + (Int.tmod x0_1 10))) % 256) [.int .u8 ((wrap64 (48 + (Int.tmod x0_1 10))) % 256)] from rfl) (Reps.none _ _))); intro v492 w5 ho6 hb hg_ hnew_; clear hg_ hnew_; (first | rw [← Ny491.out] at ho6 | (simp only [Int.reduceToNat] at ho6; rw [← Ny491.out] at ho6)); have n0_ := Aside0.mk (Kd.R_lower ho6 (below_size (by repeat (first | (with_reducible first | exact HB.out | apply below_alloc | apply pw_below_drewN | apply below_drew1) | exact HB.out)))); have n1_ := Aside0.mk (below_step (by repeat (first | (with_reducible first | exact HB.out | apply below_alloc | apply pw_below_drewN | apply below_drew1) | exact HB.out)) hb); clear HB; have HO493 := n0_; have HB := n1_; clear n0_ n1_; clear hb ho6; have hcv7 := own_string (P := Try.prog) Try.underlying29 Try.underlying5 Try.underlying9 (Kd.own_of_R HO493.out))); go_roundg k1
      case measure => have := HK1.out; omega
      case rel => exact ⟨(wrap64 (Int.tdiv x0_1 10)), ((strOfNums y491) ++ x3_1), (by first | rfl | (simp; done) | (simp [*]; done)), (by first | rfl | (simp; done) | (simp [*]; done)), H', ⟨by have := HK1.out; omega⟩, ⟨by repeat (first | (with_reducible first | exact HB.out | apply below_alloc | apply pw_below_drewN | apply below_drew1) | exact HB.out)⟩⟩
     ·rw [if_neg c4] at H; exact absurd H (by simp)
    ·rw [if_neg c3] at H; have c3b0 : decide (0 < x0_1) = false := decide_eq_false c3; clear c3; by_cases c8 : 1 + x3_1.size ≤ 9223372036854775807
     ·rw [if_pos c8] at H; have c8b0 := eq_true c8; have c8b1 : decide (1 + x3_1.size ≤ 9223372036854775807) = true := decide_eq_true c8; (try have c8b2 : (9223372036854775807 < 1 + x3_1.size) = False := eq_false (Nat.not_lt.2 c8)); obtain rfl := Option.some.inj H; go_wp2; go_ret; exact ⟨by first | rfl | (simp <;> rfl) | (simp [*] <;> rfl), by repeat (first | (with_reducible first | exact HB.out | apply below_alloc | apply pw_below_drewN | apply below_drew1) | exact HB.out)⟩
     ·rw [if_neg c8] at H; exact absurd H (by simp)
end Go.Proofs.Ytfnhjaiioojbkaa.Q
end
section
namespace Go.Proofs.Ytfnhjaiioojbkaa.Q
open Go.RowKit Go.Proofs.YtfnhjaiioojbkaaW.PrintWords Go.Proofs.YtfnhjaiioojbkaaW.PrintLast Go.Proofs.YtfnhjaiioojbkaaW.PrintMore
attribute [local go_sem] max2_int min2_int max_two min_two max_three min_three max_four min_four   -- for this text's walks alone
set_option linter.unusedVariables false
set_option linter.unusedSimpArgs false
def laws_markStringS.l0 : Nat → List ByteArray → Int → Int → Option (Int × List ByteArray)
 | 0, _, _, _ => none
 | k + 1, x0, x1, x5 => if x5 < (x0.length : Int) then ((laws_markText.f k x1).bind fun t494 => (if 0 ≤ x5 then (laws_markStringS.l0 k (x0.set (x5 : Int).toNat t494) (wrap64 (x1 + 1)) (wrap64 (x5 + 1))) else (none))) else (some (x1, x0))
def laws_markStringS.f (k : Nat) (l0 : List ByteArray) (a1 : Int) : Option (Int × List ByteArray) := laws_markStringS.l0 k l0 a1 0
set_option maxHeartbeats 8000000 in
set_option maxRecDepth 100000 in
theorem laws_markStringS.calls (k : Nat) (P0_ : Nat → Prop) (u9000_ : Value) (l0 : List ByteArray) (a1 : Int) (r1 : Int) (r2 : List ByteArray) (w0 w : World) (hB : Below w0.heap.size w0 w) (ho0 : Kd.R Kd.string 9 w w0.heap.size P0_ u9000_ l0) (h : laws_markStringS.f k l0 a1 = some (r1, r2)) :
 Calls Try.prog 31 #[u9000_, .int .i64 a1] w fun e w' => e = .returned (.int .i64 r1) ∧ Kd.R Kd.string 9 w' w0.heap.size (fun k_ => (P0_ k_ ∨ w.heap.size ≤ k_)) u9000_ r2 ∧ Below w0.heap.size w0 w' ∧ Kept w w' (fun k_ => P0_ k_) := by
 have HO0 := Aside0.mk (show Kd.R Kd.string 9 w w0.heap.size (fun k_ => (P0_ k_ ∨ w.heap.size ≤ k_)) u9000_ l0 from Kd.R_mono ho0 (fun k_ hk => (.inl hk))); have HK := Aside0.mk (Kept.refl w (fun k_ => P0_ k_)); have HW0 := Aside0.mk hB.size; have HB := Aside0.mk hB; clear hB; have H : (laws_markStringS.l0 k l0 a1 0) = some (r1, r2) := h; clear h; have H' := Aside0.mk H; clear H; go_enter Try.func31, Try.ntmps31; go_wp2; go_loopg [1, 5] k (fun kq v1 v5 w' => ∃ (x0_1 : List ByteArray) (x1_1 : Int) (x5_1 : Int), v1 = .int .i64 x1_1 ∧ v5 = .int .i64 x5_1 ∧ Aside0 (laws_markStringS.l0 kq x0_1 x1_1 x5_1 = some (r1, r2)) ∧ Aside0 (kq ≤ k) ∧ Aside0 (Kd.R Kd.string 9 w' w0.heap.size (fun k_ => (P0_ k_ ∨ w.heap.size ≤ k_)) u9000_ x0_1) ∧ Aside0 (Kept w w' (fun k_ => P0_ k_)) ∧ Aside0 (Below w0.heap.size w0 w'))
 case atStart => exact ⟨(l0), (a1), (0), (by first | rfl | (simp; done) | (simp [*]; done)), (by first | rfl | (simp; done) | (simp [*]; done)), H', ⟨Nat.le_refl _⟩, ⟨by (with_reducible repeat (first | apply Kd.R_alloc | apply Kd.R_drewN | apply Kd.R_drew)); exact HO0.out⟩, ⟨by repeat (first | (with_reducible first | exact HK.out | apply Kept.alloc | apply Kept.drewN | apply Kept.drew) | exact HK.out)⟩, ⟨by repeat (first | (with_reducible first | exact HB.out | apply below_alloc | apply pw_below_drewN | apply below_drew1) | exact HB.out)⟩⟩
 case round =>
  clear H'; (try clear p2); obtain ⟨x0_1, x1_1, x5_1, rfl, rfl, HA, HK1, HO_0, HK, HB⟩ := hrel
  cases gk with
  | zero => exact absurd HA.out (by simp [laws_markStringS.l0])
  | succ k1 =>
   have H := HA.out; clear HA; simp only [laws_markStringS.l0] at H; by_cases c3 : x5_1 < (x0_1.length : Int)
   ·rw [if_pos c3] at H; have c3b0 : decide (x5_1 < (x0_1.length : Int)) = true := decide_eq_true c3; clear c3; replace H := Option.bind_eq_some_iff.mp H; obtain ⟨t494, A40, H⟩ := H; replace H : (if 0 ≤ x5_1 then (laws_markStringS.l0 k1 (x0_1.set (x5_1 : Int).toNat t494) (wrap64 (x1_1 + 1)) (wrap64 (x5_1 + 1))) else (none)) = some (r1, r2) := H; have A4 := Aside0.mk A40; clear A40; by_cases c5 : 0 ≤ x5_1
    ·rw [if_pos c5] at H; have c5b0 : decide (0 ≤ x5_1) = true := decide_eq_true c5; clear c5; obtain ⟨y495, hy495⟩ : ∃ y_ : List ByteArray, y_ = (x0_1.set (x5_1 : Int).toNat t494) := ⟨_, rfl⟩; (replace H : (laws_markStringS.l0 k1 y495 (wrap64 (x1_1 + 1)) (wrap64 (x5_1 + 1))) = some (r1, r2) := by first | (rw [hy495]; with_reducible exact H) | (have H2_ := (Option.bind_some _ _).symm.trans H; rw [hy495]; with_reducible exact H2_) | (have H2_ := (Option.bind_some _ _).symm.trans H; with_reducible exact H2_) | with_reducible exact H | (rw [hy495]; exact H) | exact H); have Ny495 := Aside0.mk hy495; clear hy495; have H' := Aside0.mk H; clear H; obtain ⟨Ao7, co7, eo7⟩ := Kd.R_slice HO_0.out; subst eo7; go_wp2_with (first | ((with_reducible refine gate_callee (f := 77) rfl ?_); refine goesL_ (some 15) rfl rfl Try.func77 (by kernel_rfl) rfl #[.int .i64 x1_1] rfl (by (try simp only [List.map_toArray, List.map_cons, List.map_nil]); first | done | rfl | (simp only [List.length_drop, List.length_take]; rfl)) ?_; (with_reducible refine (laws_markText.calls k1 x1_1 t494 _ A4.out).mono ?_); rintro e w8 ⟨rfl, hb⟩; refine ⟨_, rfl, ?_⟩; have n0_ := Aside0.mk (Kd.R_below (by (with_reducible repeat (first | apply Kd.R_alloc | apply Kd.R_drewN | apply Kd.R_drew)); exact HO_0.out) hb); have n1_ := Aside0.mk (Kept.below (S := (fun k_ => P0_ k_)) (by repeat (first | (with_reducible first | exact HK.out | apply Kept.alloc | apply Kept.drewN | apply Kept.drew) | exact HK.out)) hb); have n2_ := Aside0.mk (below_step (by repeat (first | (with_reducible first | exact HB.out | apply below_alloc | apply pw_below_drewN | apply below_drew1) | exact HB.out)) hb); clear HO_0; clear HK; clear HB; have HO_0 := n0_; have HK := n1_; have HB := n2_; clear n0_ n1_ n2_; (try clear hb); (try clear hb2); (try clear hk); (try clear hi); have p6 : 0 ≤ (x5_1 : Int) := of_decide_eq_true (by assumption); have q6 : (x5_1 : Int) < ((x0_1.length : Int) : Int) := of_decide_eq_true (by assumption); obtain ⟨go6, co6, eo6, gb6, gl6, cl6, HG6⟩ := Kd.R_form HO_0.out (by omega); (first | cases eo6 | (injection eo6 with ea_ en_ ec_; (first | subst ea_ | (injection ea_ with ea_; subst ea_)); subst ec_; clear en_)); have GB6 := Aside0.mk gb6; have GG6 := Aside0.mk HG6; clear gb6 gl6 HG6; have HMgo6 := Aside0.mk (show (P0_ go6 ∨ w.heap.size ≤ go6) from (HO_0.out.1 _ rfl)); obtain ⟨hx6_0, hf6_0⟩ := Kd.R_celln (⟨#[]⟩ : ByteArray) HO_0.out (x5_1 : Int) p6 q6; replace p6 := eq_true p6; replace q6 := eq_true q6; obtain ⟨hy9_, hz9_⟩ := Kd.R_celln (⟨#[]⟩ : ByteArray) HO_0.out (x5_1 : Int) (of_decide_eq_true (by assumption)) (of_decide_eq_true (by assumption)); have HP9 := Kd.R_putg HO_0.out (x5_1 : Int) t494) | ((with_reducible refine gate_store (t := 9) (p := 16) rfl ?_); refine store_event (t := 9) (p := 16) (v := ?vo_w10) (w1 := (w8.setCell ⟨go6, (x5_1 : Int).toNat, none⟩ (.string t494))) ?hg ?ho ?hn ?hr ?_; (case ho => rfl); (case hg => rfl); (case hn => rfl); (case hr => first | (go_simp; done) | (go_simp; rfl)); intro w10 hw; have hg : w8.grownBy w10 (some go6) := (by rw [hw]; exact HP9.2); have hp_ : Kd.R Kd.string 9 w10 w0.heap.size (fun k_ => (P0_ k_ ∨ w.heap.size ≤ k_)) (.slice (some ⟨go6, 0, none⟩) x0_1.length co7) y495 := (by rw [hw, Ny495.out]; exact HP9.1); clear HP9; have n0_ := Aside0.mk (hp_); have n1_ := Aside0.mk ((by rw [hw]; exact below_set (HB.out) GB6.out : Below w0.heap.size w0 w10)); have n2_ := Aside0.mk (Kept.of_grown (S := (fun k_ => P0_ k_)) hg (by repeat (first | (with_reducible first | exact HK.out | apply Kept.alloc | apply Kept.drewN | apply Kept.drew) | exact HK.out)) (fun k_ e_ => (HO_0.out.1 k_ e_))); clear HO_0; clear HB; clear HK; have HO_0 := n0_; have HB := n1_; have HK := n2_; clear n0_ n1_ n2_; clear hg hw hp_))
     go_roundg k1
     case measure => have := HK1.out; omega
     case rel => exact ⟨(y495), (wrap64 (x1_1 + 1)), (wrap64 (x5_1 + 1)), (by first | rfl | (simp; done) | (simp [*]; done)), (by first | rfl | (simp; done) | (simp [*]; done)), H', ⟨by have := HK1.out; omega⟩, ⟨by (with_reducible repeat (first | apply Kd.R_alloc | apply Kd.R_drewN | apply Kd.R_drew)); exact HO_0.out⟩, ⟨by repeat (first | (with_reducible first | exact HK.out | apply Kept.alloc | apply Kept.drewN | apply Kept.drew) | exact HK.out)⟩, ⟨by repeat (first | (with_reducible first | exact HB.out | apply below_alloc | apply pw_below_drewN | apply below_drew1) | exact HB.out)⟩⟩
    ·rw [if_neg c5] at H; exact absurd H (by simp)
   ·rw [if_neg c3] at H; have c3b0 : decide (x5_1 < (x0_1.length : Int)) = false := decide_eq_false c3; clear c3; simp only [Option.some.injEq, Prod.mk.injEq] at H; obtain ⟨rfl, rfl⟩ := H; obtain ⟨Ao11, co11, eo11⟩ := Kd.R_slice HO_0.out; subst eo11; go_wp2; go_ret; exact ⟨by first | rfl | (simp <;> rfl) | (simp [*] <;> rfl), by (with_reducible repeat (first | apply Kd.R_alloc | apply Kd.R_drewN | apply Kd.R_drew)); exact HO_0.out, by repeat (first | (with_reducible first | exact HB.out | apply below_alloc | apply pw_below_drewN | apply below_drew1) | exact HB.out), by repeat (first | (with_reducible first | exact HK.out | apply Kept.alloc | apply Kept.drewN | apply Kept.drew) | exact HK.out)⟩
end Go.Proofs.Ytfnhjaiioojbkaa.Q
end
section
namespace Go.Proofs.Ytfnhjaiioojbkaa.Q
open Go.RowKit Go.Proofs.YtfnhjaiioojbkaaW.PrintWords Go.Proofs.YtfnhjaiioojbkaaW.PrintLast Go.Proofs.YtfnhjaiioojbkaaW.PrintMore
attribute [local go_sem] max2_int min2_int max_two min_two max_three min_three max_four min_four   -- for this text's walks alone
set_option linter.unusedVariables false
set_option linter.unusedSimpArgs false
def laws_heldStringS.l0 : Nat → List ByteArray → Int → Int → Option (Int)
 | 0, _, _, _ => none
 | k + 1, x0, x1, x5 => if x5 < (x0.length : Int) then (if 0 ≤ x5 then ((laws_markText.f k x1).bind fun t497 => (if (rdOf ByteArray.empty x0 x5).toList = t497.toList then (laws_heldStringS.l0 k x0 (wrap64 (x1 + 1)) (wrap64 (x5 + 1))) else (some (-1)))) else (none)) else (some x1)
def laws_heldStringS.f (k : Nat) (l0 : List ByteArray) (a1 : Int) : Option (Int) := laws_heldStringS.l0 k l0 a1 0
set_option maxHeartbeats 8000000 in
set_option maxRecDepth 100000 in
theorem laws_heldStringS.calls (k : Nat) (A0 : Option Addr) (c0 : Nat) (l0 : List ByteArray) (a1 : Int) (r : Int) (w : World) (hr0 : Kd.C Kd.string w A0 l0.length l0) (hc0 : l0.length ≤ c0) (h : laws_heldStringS.f k l0 a1 = some r) :
 Calls Try.prog 37 #[.slice A0 l0.length c0, .int .i64 a1] w fun e w' => e = .returned (.int .i64 r) ∧ Below w.heap.size w w' := by
 have HR0 := Aside0.mk hr0; have HC0 := Aside0.mk hc0; clear hr0 hc0; have HB := Aside0.mk (Below.refl w.heap.size w); have H : (laws_heldStringS.l0 k l0 a1 0) = some r := h; clear h; have H' := Aside0.mk H; clear H; go_enter Try.func37, Try.ntmps37; go_wp2; go_loopg [1, 5] k (fun kq v1 v5 w' => ∃ (x1_1 : Int) (x5_1 : Int), v1 = .int .i64 x1_1 ∧ v5 = .int .i64 x5_1 ∧ Aside0 (laws_heldStringS.l0 kq l0 x1_1 x5_1 = some r) ∧ Aside0 (kq ≤ k) ∧ Aside0 (Below w.heap.size w w'))
 case atStart => exact ⟨(a1), (0), (by first | rfl | (simp; done) | (simp [*]; done)), (by first | rfl | (simp; done) | (simp [*]; done)), H', ⟨Nat.le_refl _⟩, ⟨by repeat (first | (with_reducible first | exact HB.out | apply below_alloc | apply pw_below_drewN | apply below_drew1) | exact HB.out)⟩⟩
 case round =>
  clear H'; (try clear p2); obtain ⟨x1_1, x5_1, rfl, rfl, HA, HK1, HB⟩ := hrel
  cases gk with
  | zero => exact absurd HA.out (by simp [laws_heldStringS.l0])
  | succ k1 =>
   have H := HA.out; clear HA; simp only [laws_heldStringS.l0] at H; by_cases c3 : x5_1 < (l0.length : Int)
   ·rw [if_pos c3] at H; have c3b0 : decide (x5_1 < (l0.length : Int)) = true := decide_eq_true c3; clear c3; by_cases c4 : 0 ≤ x5_1
    ·rw [if_pos c4] at H; have c4b0 : decide (0 ≤ x5_1) = true := decide_eq_true c4; clear c4; replace H := Option.bind_eq_some_iff.mp H; obtain ⟨t497, A50, H⟩ := H; replace H : (if (rdOf ByteArray.empty l0 x5_1).toList = t497.toList then (laws_heldStringS.l0 k1 l0 (wrap64 (x1_1 + 1)) (wrap64 (x5_1 + 1))) else (some (-1))) = some r := H; have A5 := Aside0.mk A50; clear A50; by_cases c6 : (rdOf ByteArray.empty l0 x5_1).toList = t497.toList
     ·rw [if_pos c6] at H; have c6b0 : ((rdOf ByteArray.empty l0 x5_1).toList == t497.toList) = true := beq_iff_eq.mpr c6; have c6b1 : ((rdOf ByteArray.empty l0 x5_1).toList != t497.toList) = false := bne_eq_false_iff_eq.mpr c6; clear c6; have H' := Aside0.mk H; clear H; (try go_wp2); have n0_ := Aside0.mk (below_drew1 HB.out); clear HB; have HB := n0_; clear n0_; have p496 : 0 ≤ (x5_1 : Int) := of_decide_eq_true (by assumption); have q496 : x5_1 < (l0.length : Int) := of_decide_eq_true (by assumption); obtain ⟨ad496, e496, hx496_0⟩ := Kd.at_string HR0.out x5_1 p496 q496; have hw496_0 := hx496_0; cases e496; replace hx496_0 := (HB.out.cell (World.block_lt_of_cell? w _ hx496_0)).trans hx496_0; replace p496 := eq_true p496; replace q496 := eq_true q496; refine start_ (n := 7) (S := fun w' => w'.cell? (ad496.add (x5_1).toNat) = some (.string (rdOf ByteArray.empty l0 x5_1))) (ds := []) #[f_, f_, f_, f_, f_, f_, f_] (by kernel_rfl) rfl rfl (((HB.out.cell (World.block_lt_of_cell? w _ hw496_0)).trans hw496_0)) (fun hHeld => ?_); generalize wr.drew = w7 at HB hx496_0 hHeld ⊢; refine pure_ (i := 0) (N := some 12) (v := ?_) (a' := ?_) #[t_, f_, f_, f_, f_, f_, f_] rfl rfl (by kernel_rfl) (fun _ _ _ h => h) (Or.inl ⟨by rfl, ?_⟩) ?_ ?_
      rotate_left
      ·intro w'; go_simp
       with_reducible rfl
      rotate_left
      ·simp only [Act.put, List.setIfInBounds_toArray, List.set_cons_zero, List.set_cons_succ, i64_w, i32_w]
       rfl
      refine pure_ (i := 1) (N := some 13) (v := ?_) (a' := ?_) #[t_, t_, f_, f_, f_, f_, f_] rfl rfl (by kernel_rfl) (fun _ _ _ h => h) (Or.inl ⟨by rfl, ?_⟩) ?_ ?_
      rotate_left
      ·intro w'; go_simp
       with_reducible rfl
      rotate_left
      ·simp only [Act.put, List.setIfInBounds_toArray, List.set_cons_zero, List.set_cons_succ, i64_w, i32_w]
       rfl
      refine pure_ (i := 2) (N := some 14) (v := ?_) (a' := ?_) #[t_, t_, t_, f_, f_, f_, f_] rfl rfl (by kernel_rfl) (fun _ _ _ h => h) (Or.inl ⟨by rfl, ?_⟩) ?_ ?_
      rotate_left
      ·intro w'; go_simp
       with_reducible rfl
      rotate_left
      ·simp only [Act.put, List.setIfInBounds_toArray, List.set_cons_zero, List.set_cons_succ, i64_w, i32_w]
       rfl
      refine pure_ (i := 4) (N := some 16) (v := ?_) (a' := ?_) #[t_, t_, t_, f_, t_, f_, f_] rfl rfl (by kernel_rfl) (fun _ _ _ h => h) (Or.inl ⟨by rfl, ?_⟩) ?_ ?_
      rotate_left
      ·intro w'; go_simp
       with_reducible rfl
      rotate_left
      ·simp only [Act.put, List.setIfInBounds_toArray, List.set_cons_zero, List.set_cons_succ, i64_w, i32_w]
       rfl
      refine take_ (i := 3) (N := some 15) (v := ?_) (a' := ?_) #[t_, t_, t_, t_, t_, f_, f_] rfl rfl (by kernel_rfl) (fun _ _ _ h => h) (Or.inl ⟨by rfl, ?_⟩) hHeld ?_ ?_
      rotate_left
      ·intro w' s0; go_simp
       with_reducible rfl
      rotate_left
      ·simp only [Act.put, List.setIfInBounds_toArray, List.set_cons_zero, List.set_cons_succ, i64_w, i32_w]
       rfl
      refine one_ (i := 5) (N := some 17) #[t_, t_, t_, t_, t_, t_, f_] rfl rfl (by kernel_rfl) (by decide) (fun K hK => ?_); refine goes_ Try.func77 (by kernel_rfl) rfl #[.int .i64 x1_1] (by rfl) rfl rfl (by (try simp only [List.map_toArray, List.map_cons, List.map_nil]); first | done | rfl | (simp only [List.length_drop, List.length_take]; rfl)) ?_
      with_reducible refine (laws_markText.calls k1 x1_1 t497 _ A5.out).mono ?_
      rintro e w8 ⟨rfl, hb⟩; refine ⟨_, rfl, ?_⟩; have n0_ := Aside0.mk (below_step (by repeat (first | (with_reducible first | exact HB.out | apply below_alloc | apply pw_below_drewN | apply below_drew1) | exact HB.out)) hb); clear HB; have HB := n0_; clear n0_
      (try clear hb)
      (try clear hb2)
      (try clear hk)
      (try clear hi)
      refine hK.out _ _ (((HB.out.cell (World.block_lt_of_cell? w _ hw496_0)).trans hw496_0)) (fun hHeld => ?_); clear hK K; refine norm_ (a' := ?_) ?_ ?_
      rotate_left
      ·show Act.put _ (some 17) _ = _
       simp only [Act.put, List.setIfInBounds_toArray, List.set_cons_zero, List.set_cons_succ, i64_w, i32_w]
       rfl
      refine pure_ (i := 6) (N := some 18) (v := ?_) (a' := ?_) #[t_, t_, t_, t_, t_, t_, t_] rfl rfl (by kernel_rfl) (fun _ _ _ h => h) (Or.inl ⟨by rfl, ?_⟩) ?_ ?_
      rotate_left
      ·intro w'; go_simp
       with_reducible rfl
      rotate_left
      ·simp only [Act.put, List.setIfInBounds_toArray, List.set_cons_zero, List.set_cons_succ, i64_w, i32_w]
       rfl
      refine done_ (by kernel_rfl) ?_; (try go_wp2); go_roundg k1
      case measure => have := HK1.out; omega
      case rel => exact ⟨(wrap64 (x1_1 + 1)), (wrap64 (x5_1 + 1)), (by first | rfl | (simp; done) | (simp [*]; done)), (by first | rfl | (simp; done) | (simp [*]; done)), H', ⟨by have := HK1.out; omega⟩, ⟨by repeat (first | (with_reducible first | exact HB.out | apply below_alloc | apply pw_below_drewN | apply below_drew1) | exact HB.out)⟩⟩
     ·rw [if_neg c6] at H; have c6b0 : ((rdOf ByteArray.empty l0 x5_1).toList == t497.toList) = false := beq_eq_false_iff_ne.mpr c6; have c6b1 : ((rdOf ByteArray.empty l0 x5_1).toList != t497.toList) = true := bne_iff_ne.mpr c6; obtain rfl := Option.some.inj H; (try go_wp2); have n0_ := Aside0.mk (below_drew1 HB.out); clear HB; have HB := n0_; clear n0_; have p496 : 0 ≤ (x5_1 : Int) := of_decide_eq_true (by assumption); have q496 : x5_1 < (l0.length : Int) := of_decide_eq_true (by assumption); obtain ⟨ad496, e496, hx496_0⟩ := Kd.at_string HR0.out x5_1 p496 q496; have hw496_0 := hx496_0; cases e496; replace hx496_0 := (HB.out.cell (World.block_lt_of_cell? w _ hx496_0)).trans hx496_0; replace p496 := eq_true p496; replace q496 := eq_true q496; refine start_ (n := 7) (S := fun w' => w'.cell? (ad496.add (x5_1).toNat) = some (.string (rdOf ByteArray.empty l0 x5_1))) (ds := []) #[f_, f_, f_, f_, f_, f_, f_] (by kernel_rfl) rfl rfl (((HB.out.cell (World.block_lt_of_cell? w _ hw496_0)).trans hw496_0)) (fun hHeld => ?_); generalize wr.drew = w9 at HB hx496_0 hHeld ⊢; refine pure_ (i := 0) (N := some 12) (v := ?_) (a' := ?_) #[t_, f_, f_, f_, f_, f_, f_] rfl rfl (by kernel_rfl) (fun _ _ _ h => h) (Or.inl ⟨by rfl, ?_⟩) ?_ ?_
      rotate_left
      ·intro w'; go_simp
       with_reducible rfl
      rotate_left
      ·simp only [Act.put, List.setIfInBounds_toArray, List.set_cons_zero, List.set_cons_succ, i64_w, i32_w]
       rfl
      refine pure_ (i := 1) (N := some 13) (v := ?_) (a' := ?_) #[t_, t_, f_, f_, f_, f_, f_] rfl rfl (by kernel_rfl) (fun _ _ _ h => h) (Or.inl ⟨by rfl, ?_⟩) ?_ ?_
      rotate_left
      ·intro w'; go_simp
       with_reducible rfl
      rotate_left
      ·simp only [Act.put, List.setIfInBounds_toArray, List.set_cons_zero, List.set_cons_succ, i64_w, i32_w]
       rfl
      refine pure_ (i := 2) (N := some 14) (v := ?_) (a' := ?_) #[t_, t_, t_, f_, f_, f_, f_] rfl rfl (by kernel_rfl) (fun _ _ _ h => h) (Or.inl ⟨by rfl, ?_⟩) ?_ ?_
      rotate_left
      ·intro w'; go_simp
       with_reducible rfl
      rotate_left
      ·simp only [Act.put, List.setIfInBounds_toArray, List.set_cons_zero, List.set_cons_succ, i64_w, i32_w]
       rfl
      refine pure_ (i := 4) (N := some 16) (v := ?_) (a' := ?_) #[t_, t_, t_, f_, t_, f_, f_] rfl rfl (by kernel_rfl) (fun _ _ _ h => h) (Or.inl ⟨by rfl, ?_⟩) ?_ ?_
      rotate_left
      ·intro w'; go_simp
       with_reducible rfl
      rotate_left
      ·simp only [Act.put, List.setIfInBounds_toArray, List.set_cons_zero, List.set_cons_succ, i64_w, i32_w]
       rfl
      refine take_ (i := 3) (N := some 15) (v := ?_) (a' := ?_) #[t_, t_, t_, t_, t_, f_, f_] rfl rfl (by kernel_rfl) (fun _ _ _ h => h) (Or.inl ⟨by rfl, ?_⟩) hHeld ?_ ?_
      rotate_left
      ·intro w' s0; go_simp
       with_reducible rfl
      rotate_left
      ·simp only [Act.put, List.setIfInBounds_toArray, List.set_cons_zero, List.set_cons_succ, i64_w, i32_w]
       rfl
      refine one_ (i := 5) (N := some 17) #[t_, t_, t_, t_, t_, t_, f_] rfl rfl (by kernel_rfl) (by decide) (fun K hK => ?_); refine goes_ Try.func77 (by kernel_rfl) rfl #[.int .i64 x1_1] (by rfl) rfl rfl (by (try simp only [List.map_toArray, List.map_cons, List.map_nil]); first | done | rfl | (simp only [List.length_drop, List.length_take]; rfl)) ?_
      with_reducible refine (laws_markText.calls k1 x1_1 t497 _ A5.out).mono ?_
      rintro e w10 ⟨rfl, hb⟩; refine ⟨_, rfl, ?_⟩; have n0_ := Aside0.mk (below_step (by repeat (first | (with_reducible first | exact HB.out | apply below_alloc | apply pw_below_drewN | apply below_drew1) | exact HB.out)) hb); clear HB; have HB := n0_; clear n0_
      (try clear hb)
      (try clear hb2)
      (try clear hk)
      (try clear hi)
      refine hK.out _ _ (((HB.out.cell (World.block_lt_of_cell? w _ hw496_0)).trans hw496_0)) (fun hHeld => ?_); clear hK K; refine norm_ (a' := ?_) ?_ ?_
      rotate_left
      ·show Act.put _ (some 17) _ = _
       simp only [Act.put, List.setIfInBounds_toArray, List.set_cons_zero, List.set_cons_succ, i64_w, i32_w]
       rfl
      refine pure_ (i := 6) (N := some 18) (v := ?_) (a' := ?_) #[t_, t_, t_, t_, t_, t_, t_] rfl rfl (by kernel_rfl) (fun _ _ _ h => h) (Or.inl ⟨by rfl, ?_⟩) ?_ ?_
      rotate_left
      ·intro w'; go_simp
       with_reducible rfl
      rotate_left
      ·simp only [Act.put, List.setIfInBounds_toArray, List.set_cons_zero, List.set_cons_succ, i64_w, i32_w]
       rfl
      refine done_ (by kernel_rfl) ?_; (try go_wp2); go_ret; exact ⟨by first | rfl | (simp <;> rfl) | (simp [*] <;> rfl), by repeat (first | (with_reducible first | exact HB.out | apply below_alloc | apply pw_below_drewN | apply below_drew1) | exact HB.out)⟩
    ·rw [if_neg c4] at H; exact absurd H (by simp)
   ·rw [if_neg c3] at H; have c3b0 : decide (x5_1 < (l0.length : Int)) = false := decide_eq_false c3; clear c3; obtain rfl := Option.some.inj H; go_wp2; go_ret; exact ⟨by first | rfl | (simp <;> rfl) | (simp [*] <;> rfl), by repeat (first | (with_reducible first | exact HB.out | apply below_alloc | apply pw_below_drewN | apply below_drew1) | exact HB.out)⟩
end Go.Proofs.Ytfnhjaiioojbkaa.Q
end
section
namespace Go.Proofs.Ytfnhjaiioojbkaa.Q
open Go.RowKit Go.Proofs.YtfnhjaiioojbkaaW.PrintWords Go.Proofs.YtfnhjaiioojbkaaW.PrintLast Go.Proofs.YtfnhjaiioojbkaaW.PrintMore
attribute [local go_sem] max2_int min2_int max_two min_two max_three min_three max_four min_four   -- for this text's walks alone
set_option linter.unusedVariables false
set_option linter.unusedSimpArgs false
def laws_heldDeltaS.l0 : Nat → List (S39) → Int → Int → Option (Int)
 | 0, _, _, _ => none
 | k + 1, x0, x1, x5 => if x5 < (x0.length : Int) then (if 0 ≤ x5 then (if ((rd_T39 x0 x5).f0) = x1 then (if ((rd_T39 x0 x5).f1) = (wrap64 (x1 + 1)) then ((laws_heldStringS.f k ((rd_T39 x0 x5).f2) (wrap64 ((wrap64 (x1 + 1)) + 1))).bind fun t501 => (if t501 < 0 then (some (-1)) else (laws_heldDeltaS.l0 k x0 t501 (wrap64 (x5 + 1))))) else (some (-1))) else (some (-1))) else (none)) else (some x1)
def laws_heldDeltaS.f (k : Nat) (l0 : List (S39)) (a1 : Int) : Option (Int) := laws_heldDeltaS.l0 k l0 a1 0
set_option maxHeartbeats 8000000 in
set_option maxRecDepth 100000 in
theorem laws_heldDeltaS.calls (k : Nat) (A0 : Option Addr) (c0 : Nat) (l0 : List (S39)) (a1 : Int) (r : Int) (w : World) (hr0 : Kd.C k39 w A0 l0.length l0) (hc0 : l0.length ≤ c0) (h : laws_heldDeltaS.f k l0 a1 = some r) :
 Calls Try.prog 33 #[.slice A0 l0.length c0, .int .i64 a1] w fun e w' => e = .returned (.int .i64 r) ∧ Below w.heap.size w w' := by
 have HR0 := Aside0.mk hr0; have HC0 := Aside0.mk hc0; clear hr0 hc0; have HB := Aside0.mk (Below.refl w.heap.size w); have H : (laws_heldDeltaS.l0 k l0 a1 0) = some r := h; clear h; have H' := Aside0.mk H; clear H; go_enter Try.func33, Try.ntmps33; go_wp2; go_loopg [1, 5] k (fun kq v1 v5 w' => ∃ (x1_1 : Int) (x5_1 : Int), v1 = .int .i64 x1_1 ∧ v5 = .int .i64 x5_1 ∧ Aside0 (laws_heldDeltaS.l0 kq l0 x1_1 x5_1 = some r) ∧ Aside0 (kq ≤ k) ∧ Aside0 (Below w.heap.size w w'))
 case atStart => exact ⟨(a1), (0), (by first | rfl | (simp; done) | (simp [*]; done)), (by first | rfl | (simp; done) | (simp [*]; done)), H', ⟨Nat.le_refl _⟩, ⟨by repeat (first | (with_reducible first | exact HB.out | apply below_alloc | apply pw_below_drewN | apply below_drew1) | exact HB.out)⟩⟩
 case round =>
  clear H'; (try clear p2); obtain ⟨x1_1, x5_1, rfl, rfl, HA, HK1, HB⟩ := hrel
  cases gk with
  | zero => exact absurd HA.out (by simp [laws_heldDeltaS.l0])
  | succ k1 =>
   have H := HA.out; clear HA; simp only [laws_heldDeltaS.l0] at H; by_cases c3 : x5_1 < (l0.length : Int)
   ·rw [if_pos c3] at H; have c3b0 : decide (x5_1 < (l0.length : Int)) = true := decide_eq_true c3; clear c3; by_cases c4 : 0 ≤ x5_1
    ·rw [if_pos c4] at H; have c4b0 : decide (0 ≤ x5_1) = true := decide_eq_true c4; clear c4; by_cases c5 : ((rd_T39 l0 x5_1).f0) = x1_1
     ·rw [if_pos c5] at H; have c5b0 : (((rd_T39 l0 x5_1).f0) == x1_1) = true := beq_iff_eq.mpr c5; have c5b1 : (((rd_T39 l0 x5_1).f0) != x1_1) = false := bne_eq_false_iff_eq.mpr c5; clear c5; by_cases c6 : ((rd_T39 l0 x5_1).f1) = (wrap64 (x1_1 + 1))
      ·rw [if_pos c6] at H; have c6b0 : (((rd_T39 l0 x5_1).f1) == (wrap64 (x1_1 + 1))) = true := beq_iff_eq.mpr c6; have c6b1 : (((rd_T39 l0 x5_1).f1) != (wrap64 (x1_1 + 1))) = false := bne_eq_false_iff_eq.mpr c6; clear c6; replace H := Option.bind_eq_some_iff.mp H; obtain ⟨t501, A70, H⟩ := H; replace H : (if t501 < 0 then (some (-1)) else (laws_heldDeltaS.l0 k1 l0 t501 (wrap64 (x5_1 + 1)))) = some r := H; have A7 := Aside0.mk A70; clear A70; by_cases c8 : t501 < 0
       ·rw [if_pos c8] at H; have c8b0 : decide (t501 < 0) = true := decide_eq_true c8; clear c8; obtain rfl := Option.some.inj H; have p498 : 0 ≤ (x5_1 : Int) := of_decide_eq_true (by assumption); have q498 : x5_1 < (l0.length : Int) := of_decide_eq_true (by assumption); obtain ⟨ad498, A498_2, c498_2, e498, hx498_0, hx498_1, hx498_2, hl498_2, hi498_2⟩ := at_T39 HR0.out x5_1 p498 q498; cases e498; replace hx498_0 := (HB.out.cell (World.block_lt_of_cell? w _ hx498_0)).trans hx498_0; replace hx498_1 := (HB.out.cell (World.block_lt_of_cell? w _ hx498_1)).trans hx498_1; replace hx498_2 := (HB.out.cell (World.block_lt_of_cell? w _ hx498_2)).trans hx498_2; have HR498_2 := Aside0.mk hi498_2; have HC498_2 := Aside0.mk hl498_2; clear hi498_2 hl498_2; replace p498 := eq_true p498; replace q498 := eq_true q498; have p499 : 0 ≤ (x5_1 : Int) := of_decide_eq_true (by assumption); have q499 : x5_1 < (l0.length : Int) := of_decide_eq_true (by assumption); obtain ⟨ad499, A499_2, c499_2, e499, hx499_0, hx499_1, hx499_2, hl499_2, hi499_2⟩ := at_T39 HR0.out x5_1 p499 q499; obtain rfl : ad498 = ad499 := (by injection e499); replace hx499_0 := (HB.out.cell (World.block_lt_of_cell? w _ hx499_0)).trans hx499_0; replace hx499_1 := (HB.out.cell (World.block_lt_of_cell? w _ hx499_1)).trans hx499_1; replace hx499_2 := (HB.out.cell (World.block_lt_of_cell? w _ hx499_2)).trans hx499_2; have HR499_2 := Aside0.mk hi499_2; have HC499_2 := Aside0.mk hl499_2; clear hi499_2 hl499_2; replace p499 := eq_true p499; replace q499 := eq_true q499; have ea_ := Option.some.inj (hx498_2.symm.trans hx499_2); (injection ea_ with ea_ en_ ec_); subst ea_; subst ec_; clear en_; have p500 : 0 ≤ (x5_1 : Int) := of_decide_eq_true (by assumption); have q500 : x5_1 < (l0.length : Int) := of_decide_eq_true (by assumption); obtain ⟨ad500, A500_2, c500_2, e500, hx500_0, hx500_1, hx500_2, hl500_2, hi500_2⟩ := at_T39 HR0.out x5_1 p500 q500; obtain rfl : ad498 = ad500 := (by injection e500); replace hx500_0 := (HB.out.cell (World.block_lt_of_cell? w _ hx500_0)).trans hx500_0; replace hx500_1 := (HB.out.cell (World.block_lt_of_cell? w _ hx500_1)).trans hx500_1; replace hx500_2 := (HB.out.cell (World.block_lt_of_cell? w _ hx500_2)).trans hx500_2; have HR500_2 := Aside0.mk hi500_2; have HC500_2 := Aside0.mk hl500_2; clear hi500_2 hl500_2; replace p500 := eq_true p500; replace q500 := eq_true q500; have ea_ := Option.some.inj (hx498_2.symm.trans hx500_2); (injection ea_ with ea_ en_ ec_); subst ea_; subst ec_; clear en_; go_wp2_with (first | ((with_reducible refine gate_callee (f := 37) rfl ?_); refine goesL_ (some 36) rfl rfl Try.func37 (by kernel_rfl) rfl #[.slice A498_2 ((rd_T39 l0 x5_1).f2).length c498_2, .int .i64 (wrap64 ((wrap64 (x1_1 + 1)) + 1))] rfl (by (try simp only [List.map_toArray, List.map_cons, List.map_nil]); first | done | rfl | (simp only [List.length_drop, List.length_take]; rfl)) ?_; (with_reducible refine (laws_heldStringS.calls k1 _ _ ((rd_T39 l0 x5_1).f2) (wrap64 ((wrap64 (x1_1 + 1)) + 1)) t501 _ ?side1 ?side2 A7.out).mono ?_); (case side1 => repeat (first | exact (Kd.C_below HR500_2.out HB.out) | (with_reducible refine Kd.C_alloc ?_ _) | (with_reducible refine Kd.C_drewN ?_ _) | (with_reducible refine Kd.C_drew ?_))); (case side2 => exact HC500_2.out); rintro e w9 ⟨rfl, hb⟩; refine ⟨_, rfl, ?_⟩; have n0_ := Aside0.mk (below_step (by repeat (first | (with_reducible first | exact HB.out | apply below_alloc | apply pw_below_drewN | apply below_drew1) | exact HB.out)) hb); clear HB; have HB := n0_; clear n0_; (try clear hb); (try clear hb2); (try clear hk); (try clear hi)))
        go_ret; exact ⟨by first | rfl | (simp <;> rfl) | (simp [*] <;> rfl), by repeat (first | (with_reducible first | exact HB.out | apply below_alloc | apply pw_below_drewN | apply below_drew1) | exact HB.out)⟩
       ·rw [if_neg c8] at H; have c8b0 : decide (t501 < 0) = false := decide_eq_false c8; clear c8; have H' := Aside0.mk H; clear H; have p498 : 0 ≤ (x5_1 : Int) := of_decide_eq_true (by assumption); have q498 : x5_1 < (l0.length : Int) := of_decide_eq_true (by assumption); obtain ⟨ad498, A498_2, c498_2, e498, hx498_0, hx498_1, hx498_2, hl498_2, hi498_2⟩ := at_T39 HR0.out x5_1 p498 q498; cases e498; replace hx498_0 := (HB.out.cell (World.block_lt_of_cell? w _ hx498_0)).trans hx498_0; replace hx498_1 := (HB.out.cell (World.block_lt_of_cell? w _ hx498_1)).trans hx498_1; replace hx498_2 := (HB.out.cell (World.block_lt_of_cell? w _ hx498_2)).trans hx498_2; have HR498_2 := Aside0.mk hi498_2; have HC498_2 := Aside0.mk hl498_2; clear hi498_2 hl498_2; replace p498 := eq_true p498; replace q498 := eq_true q498; have p499 : 0 ≤ (x5_1 : Int) := of_decide_eq_true (by assumption); have q499 : x5_1 < (l0.length : Int) := of_decide_eq_true (by assumption); obtain ⟨ad499, A499_2, c499_2, e499, hx499_0, hx499_1, hx499_2, hl499_2, hi499_2⟩ := at_T39 HR0.out x5_1 p499 q499; obtain rfl : ad498 = ad499 := (by injection e499); replace hx499_0 := (HB.out.cell (World.block_lt_of_cell? w _ hx499_0)).trans hx499_0; replace hx499_1 := (HB.out.cell (World.block_lt_of_cell? w _ hx499_1)).trans hx499_1; replace hx499_2 := (HB.out.cell (World.block_lt_of_cell? w _ hx499_2)).trans hx499_2; have HR499_2 := Aside0.mk hi499_2; have HC499_2 := Aside0.mk hl499_2; clear hi499_2 hl499_2; replace p499 := eq_true p499; replace q499 := eq_true q499; have ea_ := Option.some.inj (hx498_2.symm.trans hx499_2); (injection ea_ with ea_ en_ ec_); subst ea_; subst ec_; clear en_; have p500 : 0 ≤ (x5_1 : Int) := of_decide_eq_true (by assumption); have q500 : x5_1 < (l0.length : Int) := of_decide_eq_true (by assumption); obtain ⟨ad500, A500_2, c500_2, e500, hx500_0, hx500_1, hx500_2, hl500_2, hi500_2⟩ := at_T39 HR0.out x5_1 p500 q500; obtain rfl : ad498 = ad500 := (by injection e500); replace hx500_0 := (HB.out.cell (World.block_lt_of_cell? w _ hx500_0)).trans hx500_0; replace hx500_1 := (HB.out.cell (World.block_lt_of_cell? w _ hx500_1)).trans hx500_1; replace hx500_2 := (HB.out.cell (World.block_lt_of_cell? w _ hx500_2)).trans hx500_2; have HR500_2 := Aside0.mk hi500_2; have HC500_2 := Aside0.mk hl500_2; clear hi500_2 hl500_2; replace p500 := eq_true p500; replace q500 := eq_true q500; have ea_ := Option.some.inj (hx498_2.symm.trans hx500_2); (injection ea_ with ea_ en_ ec_); subst ea_; subst ec_; clear en_; go_wp2_with (first | ((with_reducible refine gate_callee (f := 37) rfl ?_); refine goesL_ (some 36) rfl rfl Try.func37 (by kernel_rfl) rfl #[.slice A498_2 ((rd_T39 l0 x5_1).f2).length c498_2, .int .i64 (wrap64 ((wrap64 (x1_1 + 1)) + 1))] rfl (by (try simp only [List.map_toArray, List.map_cons, List.map_nil]); first | done | rfl | (simp only [List.length_drop, List.length_take]; rfl)) ?_; (with_reducible refine (laws_heldStringS.calls k1 _ _ ((rd_T39 l0 x5_1).f2) (wrap64 ((wrap64 (x1_1 + 1)) + 1)) t501 _ ?side1 ?side2 A7.out).mono ?_); (case side1 => repeat (first | exact (Kd.C_below HR500_2.out HB.out) | (with_reducible refine Kd.C_alloc ?_ _) | (with_reducible refine Kd.C_drewN ?_ _) | (with_reducible refine Kd.C_drew ?_))); (case side2 => exact HC500_2.out); rintro e w10 ⟨rfl, hb⟩; refine ⟨_, rfl, ?_⟩; have n0_ := Aside0.mk (below_step (by repeat (first | (with_reducible first | exact HB.out | apply below_alloc | apply pw_below_drewN | apply below_drew1) | exact HB.out)) hb); clear HB; have HB := n0_; clear n0_; (try clear hb); (try clear hb2); (try clear hk); (try clear hi)))
        go_roundg k1
        case measure => have := HK1.out; omega
        case rel => exact ⟨(t501), (wrap64 (x5_1 + 1)), (by first | rfl | (simp; done) | (simp [*]; done)), (by first | rfl | (simp; done) | (simp [*]; done)), H', ⟨by have := HK1.out; omega⟩, ⟨by repeat (first | (with_reducible first | exact HB.out | apply below_alloc | apply pw_below_drewN | apply below_drew1) | exact HB.out)⟩⟩
      ·rw [if_neg c6] at H; have c6b0 : (((rd_T39 l0 x5_1).f1) == (wrap64 (x1_1 + 1))) = false := beq_eq_false_iff_ne.mpr c6; have c6b1 : (((rd_T39 l0 x5_1).f1) != (wrap64 (x1_1 + 1))) = true := bne_iff_ne.mpr c6; obtain rfl := Option.some.inj H; have p498 : 0 ≤ (x5_1 : Int) := of_decide_eq_true (by assumption); have q498 : x5_1 < (l0.length : Int) := of_decide_eq_true (by assumption); obtain ⟨ad498, A498_2, c498_2, e498, hx498_0, hx498_1, hx498_2, hl498_2, hi498_2⟩ := at_T39 HR0.out x5_1 p498 q498; cases e498; replace hx498_0 := (HB.out.cell (World.block_lt_of_cell? w _ hx498_0)).trans hx498_0; replace hx498_1 := (HB.out.cell (World.block_lt_of_cell? w _ hx498_1)).trans hx498_1; replace hx498_2 := (HB.out.cell (World.block_lt_of_cell? w _ hx498_2)).trans hx498_2; have HR498_2 := Aside0.mk hi498_2; have HC498_2 := Aside0.mk hl498_2; clear hi498_2 hl498_2; replace p498 := eq_true p498; replace q498 := eq_true q498; have p499 : 0 ≤ (x5_1 : Int) := of_decide_eq_true (by assumption); have q499 : x5_1 < (l0.length : Int) := of_decide_eq_true (by assumption); obtain ⟨ad499, A499_2, c499_2, e499, hx499_0, hx499_1, hx499_2, hl499_2, hi499_2⟩ := at_T39 HR0.out x5_1 p499 q499; obtain rfl : ad498 = ad499 := (by injection e499); replace hx499_0 := (HB.out.cell (World.block_lt_of_cell? w _ hx499_0)).trans hx499_0; replace hx499_1 := (HB.out.cell (World.block_lt_of_cell? w _ hx499_1)).trans hx499_1; replace hx499_2 := (HB.out.cell (World.block_lt_of_cell? w _ hx499_2)).trans hx499_2; have HR499_2 := Aside0.mk hi499_2; have HC499_2 := Aside0.mk hl499_2; clear hi499_2 hl499_2; replace p499 := eq_true p499; replace q499 := eq_true q499; have ea_ := Option.some.inj (hx498_2.symm.trans hx499_2); (injection ea_ with ea_ en_ ec_); subst ea_; subst ec_; clear en_; go_wp2; go_ret; exact ⟨by first | rfl | (simp <;> rfl) | (simp [*] <;> rfl), by repeat (first | (with_reducible first | exact HB.out | apply below_alloc | apply pw_below_drewN | apply below_drew1) | exact HB.out)⟩
     ·rw [if_neg c5] at H; have c5b0 : (((rd_T39 l0 x5_1).f0) == x1_1) = false := beq_eq_false_iff_ne.mpr c5; have c5b1 : (((rd_T39 l0 x5_1).f0) != x1_1) = true := bne_iff_ne.mpr c5; obtain rfl := Option.some.inj H; have p498 : 0 ≤ (x5_1 : Int) := of_decide_eq_true (by assumption); have q498 : x5_1 < (l0.length : Int) := of_decide_eq_true (by assumption); obtain ⟨ad498, A498_2, c498_2, e498, hx498_0, hx498_1, hx498_2, hl498_2, hi498_2⟩ := at_T39 HR0.out x5_1 p498 q498; cases e498; replace hx498_0 := (HB.out.cell (World.block_lt_of_cell? w _ hx498_0)).trans hx498_0; replace hx498_1 := (HB.out.cell (World.block_lt_of_cell? w _ hx498_1)).trans hx498_1; replace hx498_2 := (HB.out.cell (World.block_lt_of_cell? w _ hx498_2)).trans hx498_2; have HR498_2 := Aside0.mk hi498_2; have HC498_2 := Aside0.mk hl498_2; clear hi498_2 hl498_2; replace p498 := eq_true p498; replace q498 := eq_true q498; go_wp2; go_ret; exact ⟨by first | rfl | (simp <;> rfl) | (simp [*] <;> rfl), by repeat (first | (with_reducible first | exact HB.out | apply below_alloc | apply pw_below_drewN | apply below_drew1) | exact HB.out)⟩
    ·rw [if_neg c4] at H; exact absurd H (by simp)
   ·rw [if_neg c3] at H; have c3b0 : decide (x5_1 < (l0.length : Int)) = false := decide_eq_false c3; clear c3; obtain rfl := Option.some.inj H; go_wp2; go_ret; exact ⟨by first | rfl | (simp <;> rfl) | (simp [*] <;> rfl), by repeat (first | (with_reducible first | exact HB.out | apply below_alloc | apply pw_below_drewN | apply below_drew1) | exact HB.out)⟩
end Go.Proofs.Ytfnhjaiioojbkaa.Q
end
section
namespace Go.Proofs.Ytfnhjaiioojbkaa.Q
open Go.RowKit Go.Proofs.YtfnhjaiioojbkaaW.PrintWords
set_option linter.unusedVariables false
set_option linter.unusedSimpArgs false
theorem markText0_ev : ∀ (n : Nat) (a : Int) (s : ByteArray), a.toNat ≤ n → 0 ≤ a → a ≤ 4611686018427387904 → s.size + n ≤ 9223372036854775000 → ∃ r, Ev (fun k => laws_markText.l0 k a s) r
  | n, a, s, hn, h0, h1, hs => by
    by_cases c : a > 0
    · have hd : Int.tdiv a 10 = a / 10 := Int.tdiv_eq_ediv_of_nonneg h0
      have hw : wrap64 (a / 10) = a / 10 := w64 (by omega) (by omega)
      have hz : (strOfNums [wrap64 (48 + Int.tmod a 10) % 256]).size = 1 := by simp [strOfNums]; rfl
      obtain ⟨m, rfl⟩ : ∃ m, n = m + 1 := ⟨n - 1, by omega⟩
      obtain ⟨r, hr⟩ := markText0_ev m (a / 10) (strOfNums [wrap64 (48 + Int.tmod a 10) % 256] ++ s) (by omega) (by omega) (by omega) (by rw [ByteArray.size_append, hz]; omega)
      refine ⟨r, Ev.step' ?_⟩
      simp only [laws_markText.l0, hd, hw]
      exact Ev.posf c (Ev.somef (Ev.posf (by rw [hz]; omega) hr))
    · refine ⟨(⟨#[109]⟩ : ByteArray) ++ s, Ev.step' ?_⟩
      simp only [laws_markText.l0]
      exact Ev.negf c (Ev.posf (by omega) (Ev.now _))
theorem markText_ev (a : Int) (h0 : 0 ≤ a) (h1 : a ≤ 4611686018427387904) : ∃ r, Ev (fun k => laws_markText.f k a) r := by
  unfold laws_markText.f
  by_cases c : a ≤ 0
  · exact ⟨_, Ev.posf c (Ev.now _)⟩
  · obtain ⟨r, hr⟩ := markText0_ev a.toNat a (⟨#[]⟩ : ByteArray) (Nat.le_refl _) h0 h1 (by show 0 + _ ≤ _; omega)
    exact ⟨r, Ev.negf c hr⟩
def Mt (mt : Int → ByteArray) : Prop := ∀ a : Int, 0 ≤ a → a ≤ 4611686018427387904 → Ev (fun k => laws_markText.f k a) (mt a)
theorem exists_mt : ∃ mt, Mt mt := by
  classical
  refine ⟨fun a => if h : 0 ≤ a ∧ a ≤ 4611686018427387904 then Classical.choose (markText_ev a h.1 h.2) else ByteArray.empty, fun a h0 h1 => ?_⟩
  show Ev _ (dite _ _ _)
  rw [dif_pos ⟨h0, h1⟩]
  exact Classical.choose_spec (markText_ev a h0 h1)
def mkS (mt : Int → ByteArray) (l : Tx) (a : Int) : Tx := (List.range l.length).map (fun j : Nat => mt (a + j))
theorem mkS_len (mt : Int → ByteArray) (l : Tx) (a : Int) : (mkS mt l a).length = l.length := by simp [mkS]
theorem markS0_ev {mt : Int → ByteArray} (hm : Mt mt) (l : Tx) (a : Int) (h0 : 0 ≤ a) (h1 : a + l.length ≤ 4000000000000000000) : ∀ (d i : Nat), l.length - i = d → i ≤ l.length →
    Ev (fun k => laws_markStringS.l0 k ((List.range i).map (fun j : Nat => mt (a + j)) ++ l.drop i) (a + i) i) (a + l.length, mkS mt l a)
  | 0, i, hd, hi => by
    obtain rfl : i = l.length := by omega
    refine Ev.step' ?_
    simp only [laws_markStringS.l0]
    exact Ev.negf (by simp) (EvT (Ev.now _) (by simp [mkS]))
  | d + 1, i, hd, hi => by
    have hi' : i < l.length := by omega
    have hs : (((List.range i).map (fun j : Nat => mt (a + j)) ++ l.drop i).set i (mt (a + i))) = (List.range (i + 1)).map (fun j : Nat => mt (a + j)) ++ l.drop (i + 1) := by
      rw [List.set_append_right _ _ (by simp)]
      simp [List.range_succ]
      rw [List.drop_eq_getElem_cons hi']
      rfl
    refine Ev.step' ?_
    have hw : wrap64 (a + (i : Int) + 1) = a + ((i + 1 : Nat) : Int) := by rw [w64 (by omega) (by omega)]; omega
    have hw2 : wrap64 ((i : Int) + 1) = ((i + 1 : Nat) : Int) := by rw [w64 (by omega) (by omega)]; omega
    simp only [laws_markStringS.l0, hw, hw2, Int.toNat_natCast]
    refine Ev.posf (by simp; omega) (Ev.bind (hm (a + i) (by omega) (by omega)) (Ev.posf (by omega) ?_))
    rw [hs]
    exact markS0_ev hm l a h0 h1 d (i + 1) (by omega) (by omega)
theorem markS_ev {mt : Int → ByteArray} (hm : Mt mt) (l : Tx) (a : Int) (h0 : 0 ≤ a) (h1 : a + l.length ≤ 4000000000000000000) : Ev (fun k => laws_markStringS.f k l a) (a + l.length, mkS mt l a) := by
  unfold laws_markStringS.f
  have := markS0_ev hm l a h0 h1 _ 0 rfl (by omega)
  simpa using this
theorem heldS0_ev {mt : Int → ByteArray} (hm : Mt mt) (l : Tx) (a : Int) (h0 : 0 ≤ a) (h1 : a + l.length ≤ 4000000000000000000) : ∀ (d i : Nat), l.length - i = d → i ≤ l.length →
    Ev (fun k => laws_heldStringS.l0 k (mkS mt l a) (a + i) i) (a + l.length)
  | 0, i, hd, hi => by
    obtain rfl : i = l.length := by omega
    refine Ev.step' ?_
    simp only [laws_heldStringS.l0]
    exact Ev.negf (by rw [mkS_len]; omega) (Ev.now _)
  | d + 1, i, hd, hi => by
    have hi' : i < l.length := by omega
    have hl : i < (mkS mt l a).length := by rw [mkS_len]; exact hi'
    have hg : (mkS mt l a)[i] = mt (a + i) := by simp [mkS]
    refine Ev.step' ?_
    have hw : wrap64 (a + (i : Int) + 1) = a + ((i + 1 : Nat) : Int) := by rw [w64 (by omega) (by omega)]; omega
    have hw2 : wrap64 ((i : Int) + 1) = ((i + 1 : Nat) : Int) := by rw [w64 (by omega) (by omega)]; omega
    simp only [laws_heldStringS.l0, hw, hw2, rdAt hl, hg]
    exact Ev.posf (by omega) (Ev.posf (by omega) (Ev.bind (hm (a + i) (by omega) (by omega)) (Ev.posf rfl (heldS0_ev hm l a h0 h1 d (i + 1) (by omega) (by omega)))))
theorem heldS_ev {mt : Int → ByteArray} (hm : Mt mt) (l : Tx) (a : Int) (h0 : 0 ≤ a) (h1 : a + l.length ≤ 4000000000000000000) : Ev (fun k => laws_heldStringS.f k (mkS mt l a) a) (a + l.length) := by
  unfold laws_heldStringS.f
  have := heldS0_ev hm l a h0 h1 _ 0 rfl (by omega)
  simpa using this
def cnD : List Dl → Int
  | [] => 0
  | x :: t => 2 + x.f2.length + cnD t
def mkD (mt : Int → ByteArray) : List Dl → Int → List Dl
  | [], _ => []
  | x :: t, a => ⟨a, a + 1, mkS mt x.f2 (a + 2)⟩ :: mkD mt t (a + (2 + x.f2.length))
theorem cnD_nn : ∀ l, 0 ≤ cnD l
  | [] => by simp [cnD]
  | x :: t => by have := cnD_nn t; simp only [cnD]; omega
theorem cnD_app : ∀ (l : List Dl) (x : Dl), cnD (l ++ [x]) = cnD l + (2 + x.f2.length)
  | [], x => by simp [cnD]
  | y :: t, x => by rw [List.cons_append, cnD, cnD_app t x, cnD]; omega
theorem cnD_apps : ∀ (l m : List Dl), cnD (l ++ m) = cnD l + cnD m
  | [], m => by simp [cnD]
  | y :: t, m => by rw [List.cons_append, cnD, cnD_apps t m, cnD]; omega
theorem mkD_app (mt : Int → ByteArray) : ∀ (l : List Dl) (x : Dl) (a : Int), mkD mt (l ++ [x]) a = mkD mt l a ++ [⟨a + cnD l, a + cnD l + 1, mkS mt x.f2 (a + cnD l + 2)⟩]
  | [], x, a => by simp [mkD, cnD]
  | y :: t, x, a => by
    rw [List.cons_append, mkD, mkD_app mt t x, mkD, cnD, List.cons_append, show a + (2 + (y.f2.length : Int)) + cnD t = a + (2 + y.f2.length + cnD t) by omega]
theorem mkD_len (mt : Int → ByteArray) : ∀ (l : List Dl) (a : Int), (mkD mt l a).length = l.length
  | [], a => rfl
  | x :: t, a => by simp [mkD, mkD_len mt t]
theorem cnD_take {l : List Dl} {i : Nat} (h : i < l.length) : cnD (l.take (i + 1)) = cnD (l.take i) + (2 + l[i].f2.length) := by
  rw [← List.take_append_getElem h, cnD_app]
theorem cnD_le (l : List Dl) (i : Nat) : cnD (l.take i) ≤ cnD l := by
  have h : cnD l = cnD (l.take i) + cnD (l.drop i) := by rw [← cnD_apps, List.take_append_drop]
  have := cnD_nn (l.drop i)
  omega
theorem mkD_get (mt : Int → ByteArray) (l : List Dl) (a : Int) (i : Nat) (h : i < l.length) : (mkD mt l a)[i]'(by rw [mkD_len]; exact h) = ⟨a + cnD (l.take i), a + cnD (l.take i) + 1, mkS mt l[i].f2 (a + cnD (l.take i) + 2)⟩ := by
  have e : ∀ l : List Dl, ∀ r : List Dl, mkD mt (l ++ r) a = mkD mt l a ++ mkD mt r (a + cnD l) := by
    intro l
    induction l generalizing a with
    | nil => intro r; simp [mkD, cnD]
    | cons x t ih => intro r; rw [List.cons_append, mkD, ih, mkD, cnD, List.cons_append, show a + (2 + (x.f2.length : Int)) + cnD t = a + (2 + x.f2.length + cnD t) by omega]
  have h2 : l = l.take i ++ (l[i] :: l.drop (i + 1)) := by rw [← List.drop_eq_getElem_cons h, List.take_append_drop]
  have hl : (mkD mt (l.take i) a).length = i := by rw [mkD_len, List.length_take]; omega
  have e2 := e (l.take i) (l[i] :: l.drop (i + 1))
  rw [← h2] at e2
  simp only [e2, mkD]
  rw [List.getElem_append_right (by omega)]
  simp [hl]
theorem heldD0_ev {mt : Int → ByteArray} (hm : Mt mt) (l : List Dl) (a : Int) (h0 : 0 ≤ a) (hl : l.length ≤ 100000000) (h1 : a + cnD l ≤ 4000000000000000000) : ∀ (d i : Nat), l.length - i = d → i ≤ l.length →
    Ev (fun k => laws_heldDeltaS.l0 k (mkD mt l a) (a + cnD (l.take i)) i) (a + cnD l)
  | 0, i, hd, hi => by
    obtain rfl : i = l.length := by omega
    refine Ev.step' ?_
    simp only [laws_heldDeltaS.l0]
    exact Ev.negf (by rw [mkD_len]; omega) (EvT (Ev.now _) (by rw [List.take_length]))
  | d + 1, i, hd, hi => by
    have hi' : i < l.length := by omega
    have hlm : i < (mkD mt l a).length := by rw [mkD_len]; exact hi'
    have hg := mkD_get mt l a i hi'
    have hc := cnD_take hi'
    have hle := cnD_le l (i + 1)
    have hnn := cnD_nn (l.take i)
    have hw1 : wrap64 (a + cnD (l.take i) + 1) = a + cnD (l.take i) + 1 := w64 (by omega) (by omega)
    have hw2 : wrap64 (a + cnD (l.take i) + 1 + 1) = a + cnD (l.take i) + 2 := by rw [w64 (by omega) (by omega)]; omega
    refine Ev.step' ?_
    simp only [laws_heldDeltaS.l0, w64_succ i (by omega), rdD hlm, hg, hw1, hw2]
    refine Ev.posf (by omega) (Ev.posf (by omega) (Ev.posf trivial (Ev.posf trivial (Ev.bind (heldS_ev hm l[i].f2 (a + cnD (l.take i) + 2) (by omega) (by omega)) (Ev.negf (by omega) ?_)))))
    have ih := heldD0_ev hm l a h0 hl h1 d (i + 1) (by omega) (by omega)
    rw [hc] at ih
    rw [show a + cnD (l.take i) + 2 + (l[i].f2.length : Int) = a + (cnD (l.take i) + (2 + l[i].f2.length)) by omega]
    exact ih
theorem heldD_ev {mt : Int → ByteArray} (hm : Mt mt) (l : List Dl) (a : Int) (h0 : 0 ≤ a) (hl : l.length ≤ 100000000) (h1 : a + cnD l ≤ 4000000000000000000) : Ev (fun k => laws_heldDeltaS.f k (mkD mt l a) a) (a + cnD l) := by
  unfold laws_heldDeltaS.f
  have := heldD0_ev hm l a h0 hl h1 _ 0 rfl (by omega)
  simpa [cnD] using this
end Go.Proofs.Ytfnhjaiioojbkaa.Q
end
section
namespace Go.Proofs.Ytfnhjaiioojbkaa.Q
open Go.RowKit Go.Proofs.YtfnhjaiioojbkaaW.PrintWords Go.Proofs.YtfnhjaiioojbkaaW.PrintLast Go.Proofs.YtfnhjaiioojbkaaW.PrintMore
attribute [local go_sem] max2_int min2_int max_two min_two max_three min_three max_four min_four
set_option linter.unusedVariables false
set_option linter.unusedSimpArgs false
/-- One cell of an element is written. -/
theorem S_field {α : Type} {d : Kd α} {e g n cap : Nat} {W : World} {base : Nat} {ok : Nat → Prop} {xs : List α} (h : Kd.S d e W base ok (.slice (some ⟨g, 0, none⟩) n cap) xs) (z : α) (i : Int) (h0 : 0 ≤ i) (h1 : i < n)
    (j : Nat) (hj : j < d.sz) (u : Value) (x' : α) (hM : ∀ (oki : Nat → Prop) (c : List Value), c.length = d.sz → d.M W base oki (xs.getD i.toNat z) c → d.M W base oki x' (c.take j ++ [u] ++ c.drop (j + 1))) :
    (∃ c : List Value, c.length = d.sz ∧ ∀ j u, c[j]? = some u → W.cell? ⟨g, i.toNat * d.sz + j, none⟩ = some u) ∧ (∀ j, W.frozen? ⟨g, i.toNat * d.sz + j, none⟩ = false) ∧
      Kd.S d e (W.setCell ⟨g, i.toNat * d.sz + j, none⟩ u) base ok (.slice (some ⟨g, 0, none⟩) n cap) (xs.set i.toNat x') ∧ W.grownBy (W.setCell ⟨g, i.toNat * d.sz + j, none⟩ u) (some g) := by
  obtain ⟨oki, c, hcl, hMc, hcc, hfr, hoki, hH⟩ := Kd.S_elem (Kd.S_mono (ok' := fun k => ok k ∧ ¬ (fun _ => False) k) h (fun k hk => ⟨hk, fun hf => hf⟩)) z i h0 h1
  obtain ⟨p1, p2⟩ := Kd.S_seg (okp := oki) (okg := fun _ => False) hH h0 h1 (seg := [u]) (j := j) (show j + 1 ≤ d.sz from hj) (x' := x') (hM oki c hcl hMc) (fun k hk => .inl hk) (fun k hk => hk.elim)
  exact ⟨⟨c, hcl, hcc⟩, hfr, p1, p2⟩
theorem set_mid {α : Type} (p : List α) (x y : α) (q : List α) (i : Nat) (h : i = p.length) : (p ++ x :: q).set i y = p ++ y :: q := by
  subst h; simp
theorem get_mid {α : Type} (p : List α) (x z : α) (q : List α) (i : Nat) (h : i = p.length) : (p ++ x :: q).getD i z = x := by
  subst h; simp
theorem k39_f0 {W : World} {base : Nat} {a : Int} {x : Dl} (oki : Nat → Prop) (c : List Value) (hl : c.length = k39.sz) (h : k39.M W base oki x c) : k39.M W base oki ⟨a, x.f1, x.f2⟩ (c.take 0 ++ [.int .i64 a] ++ c.drop (0 + 1)) := by
  obtain ⟨v, rfl, g⟩ := k39_openM h
  exact k39_mkM _ _ _ ⟨a, x.f1, x.f2⟩ g
theorem k39_f1 {W : World} {base : Nat} {a : Int} {x : Dl} (oki : Nat → Prop) (c : List Value) (hl : c.length = k39.sz) (h : k39.M W base oki x c) : k39.M W base oki ⟨x.f0, a, x.f2⟩ (c.take 1 ++ [.int .i64 a] ++ c.drop (1 + 1)) := by
  obtain ⟨v, rfl, g⟩ := k39_openM h
  exact k39_mkM _ _ _ ⟨x.f0, a, x.f2⟩ g
theorem k39_g0 {W : World} {base : Nat} {a : Int} {x : Dl} {p q : List Dl} {i : Nat} (hp : i = p.length) (oki : Nat → Prop) (c : List Value) (hl : c.length = k39.sz) (h : k39.M W base oki ((p ++ x :: q).getD (i : Int).toNat z39) c) : k39.M W base oki ⟨a, x.f1, x.f2⟩ (c.take 0 ++ [.int .i64 a] ++ c.drop (0 + 1)) := by
  rw [Int.toNat_natCast, get_mid _ _ _ _ _ hp] at h
  exact k39_f0 oki c hl h
theorem k39_g1 {W : World} {base : Nat} {a : Int} {x : Dl} {p q : List Dl} {i : Nat} (hp : i = p.length) (oki : Nat → Prop) (c : List Value) (hl : c.length = k39.sz) (h : k39.M W base oki ((p ++ x :: q).getD (i : Int).toNat z39) c) : k39.M W base oki ⟨x.f0, a, x.f2⟩ (c.take 1 ++ [.int .i64 a] ++ c.drop (1 + 1)) := by
  rw [Int.toNat_natCast, get_mid _ _ _ _ _ hp] at h
  exact k39_f1 oki c hl h
/-- The lines of one element, lent: where they lie, and the row without them. -/
theorem lend_lines {W : World} {base : Nat} {ok : Nat → Prop} {g n cap : Nat} {p q : List Dl} {x : Dl} {i : Nat} (hp : i = p.length) (h : Kd.S k39 39 W base ok (.slice (some ⟨g, 0, none⟩) n cap) (p ++ x :: q)) (hi : (i : Int) < (n : Int)) :
    ∃ (oki : Nat → Prop) (A : Option Addr) (c : Nat), Kd.R Kd.string 9 W base oki (.slice A x.f2.length c) x.f2 ∧ W.cell? ⟨g, i * 3 + 2, none⟩ = some (.slice A x.f2.length c) ∧ (∀ k, oki k → ok k) ∧
      Kd.H k39 39 W base ok (.slice (some ⟨g, 0, none⟩) n cap) (p ++ x :: q) (i : Int) oki [.int .i64 x.f0, .int .i64 x.f1, .slice A x.f2.length c] := by
  obtain ⟨oki, c, hcl, hM, hcc, hoki, hH⟩ := Kd.S_lend h z39 (i : Int) (by omega) hi
  rw [Int.toNat_natCast, get_mid _ _ _ _ _ hp] at hM
  obtain ⟨v, rfl, g2⟩ := k39_openM hM
  obtain ⟨A, c2, rfl⟩ := Kd.R_slice g2
  exact ⟨oki, A, c2, g2, hcc 2 _ rfl, fun k hk => (hoki k hk).1, hH⟩
/-- .. and brought back, written. -/
theorem back_lines {W w1 : World} {base : Nat} {ok oki : Nat → Prop} {g n cap c : Nat} {A : Option Addr} {p q : List Dl} {x : Dl} {i : Nat} {m : Nat} {l : Tx} (hp : i = p.length) (hH : Kd.H k39 39 W base ok (.slice (some ⟨g, 0, none⟩) n cap) (p ++ x :: q) (i : Int) oki [.int .i64 x.f0, .int .i64 x.f1, .slice A m c])
    (hr : Kd.R Kd.string 9 w1 base (fun k => oki k ∨ W.heap.size ≤ k) (.slice A m c) l) (hk : Kept W w1 oki) (hok : ∀ k, W.heap.size ≤ k → ok k) :
    Kd.S k39 39 w1 base ok (.slice (some ⟨g, 0, none⟩) n cap) (p ++ ⟨x.f0, x.f1, l⟩ :: q) := by
  have h2 := Kd.H_step (Kd.H_widen hH) (w1 := w1) (fun k _ hn hlt => hk.2 k hlt (fun h => hn (.inl h)))
  have h3 := Kd.H_back h2 (x' := ⟨x.f0, x.f1, l⟩) (k39_mkM _ _ _ ⟨x.f0, x.f1, l⟩ hr) (fun k hk => hk.elim .inl (fun h => .inr ⟨hok k h, h⟩))
  rw [Int.toNat_natCast, set_mid _ _ _ _ _ hp] at h3
  exact h3
set_option maxHeartbeats 8000000 in
set_option maxRecDepth 100000 in
theorem markDS_calls {mt : Int → ByteArray} (hm : Mt mt) (P0 : Nat → Prop) (u : Value) (l : List Dl) (a : Int) (w0 w : World) (hB : Below w0.heap.size w0 w) (ho : Kd.S k39 39 w w0.heap.size P0 u l) (h0 : 0 ≤ a) (hl : l.length ≤ 1000000) (h1 : a + cnD l ≤ 4000000000000000000) :
    Calls Try.prog 32 #[u, .int .i64 a] w fun e w' => e = .returned (.int .i64 (a + cnD l)) ∧ Kd.S k39 39 w' w0.heap.size (fun k => P0 k ∨ w.heap.size ≤ k) u (mkD mt l a) ∧ Below w0.heap.size w0 w' ∧ Kept w w' P0 := by
  have hu39 := Try.underlying39
  obtain ⟨A, c, rfl⟩ := Kd.S_slice ho
  have HO := Aside0.mk (Kd.S_mono (ok' := fun k => P0 k ∨ w.heap.size ≤ k) ho (fun k hk => .inl hk))
  have HB := Aside0.mk hB
  have HK := Aside0.mk (Kept.refl w P0)
  have HM := Aside0.mk hm
  have H0 := Aside0.mk h0
  have H1 := Aside0.mk h1
  have HL := Aside0.mk hl
  clear ho hB hm h0 h1 hl
  go_enter Try.func32, Try.ntmps32
  go_wp2
  go_loopg [1, 5] l.length (fun gg v1 v5 wr => ∃ i : Nat, v1 = .int .i64 (a + cnD (l.take i)) ∧ v5 = .int .i64 i ∧ i ≤ l.length ∧ l.length - i ≤ gg ∧ Aside0 (Kd.S k39 39 wr w0.heap.size (fun k => P0 k ∨ w.heap.size ≤ k) (.slice A l.length c) (mkD mt (l.take i) a ++ l.drop i)) ∧ Aside0 (Kept w wr P0) ∧ Aside0 (Below w0.heap.size w0 wr))
  case atStart => exact ⟨0, by simp [cnD], rfl, Nat.zero_le _, by omega, HO, HK, HB⟩
  case round =>
    clear HO HB HK
    obtain ⟨i, rfl, rfl, hi, hg, HO, HK, HB⟩ := hrel
    by_cases hlt : i < l.length
    · have HLT := Aside0.mk hlt
      have hltz : (i : Int) < (l.length : Int) := by omega
      have hzz : 0 ≤ (i : Int) := by omega
      have hib : i ≤ 1000000 := by have := HL.out; omega
      have hct := cnD_take hlt
      have hle := cnD_le l (i + 1)
      have hnn := cnD_nn (l.take i)
      obtain ⟨kk, hkk⟩ : ∃ kk, a + cnD (l.take i) = kk := ⟨_, rfl⟩
      have HKK := Aside0.mk hkk
      rw [hkk]
      have HR := Aside0.mk (show 0 ≤ kk ∧ kk + 2 + l[i].f2.length ≤ 4000000000000000000 ∧ a + cnD (l.take (i + 1)) = kk + 2 + l[i].f2.length by have := H0.out; have := H1.out; omega)
      have hpl : i = (mkD mt (l.take i) a).length := by rw [mkD_len, List.length_take]; omega
      have HPL := Aside0.mk hpl
      rw [List.drop_eq_getElem_cons hlt] at HO
      obtain ⟨go, co', eo, gb, gl, cl, HG⟩ := Kd.S_form HO.out (by simp; omega)
      injection eo with ea en ec
      subst ea
      subst ec
      have GB := Aside0.mk gb
      clear gb gl HG en hct hle hnn hkk
      have hgo : P0 go ∨ w.heap.size ≤ go := (Kd.S_R HO.out).1 go rfl
      have HGO := Aside0.mk hgo
      obtain ⟨⟨cc, hcl, hcc⟩, hfr, p1, p2⟩ := S_field HO.out z39 (i : Int) hzz hltz 0 (by decide) (.int .i64 kk) ⟨kk, l[i].f1, l[i].f2⟩ (k39_g0 HPL.out)
      obtain ⟨u0, u1, u2, rfl⟩ : ∃ u0 u1 u2, cc = [u0, u1, u2] := (by match cc, hcl with | [a, b, c], _ => exact ⟨a, b, c, rfl⟩)
      have hz0 := hcc 0 _ rfl
      have hf0 := hfr 0
      simp only [show k39.sz = 3 from rfl, Int.toNat_natCast, Nat.add_zero] at hz0 hf0 p1 p2
      rw [set_mid _ _ _ _ _ HPL.out] at p1
      have P1 := Aside0.mk p1
      have P2 := Aside0.mk p2
      clear hcc hfr p1 p2 hcl hpl hgo
      obtain ⟨km, hkm⟩ := markS_ev HM.out l[i].f2 (kk + 2) (by have := HR.out; omega) (by have := HR.out; omega)
      have HMS := Aside0.mk (hkm km (Nat.le_refl _))
      clear hkm
      have hw1 : wrap64 (kk + 1) = kk + 1 := by have := HR.out; exact w64 (by omega) (by omega)
      have hw1b : (IntKind.i64.wrap (kk + 1)) = kk + 1 := (i64_w _).trans hw1
      have hw2 : wrap64 (kk + 1 + 1) = kk + 2 := by have := HR.out; rw [w64 (by omega) (by omega)]; omega
      have hw2b : (IntKind.i64.wrap (kk + 1 + 1)) = kk + 2 := (i64_w _).trans hw2
      go_wp2_with (first | ((with_reducible refine gate_store (t := 3) (p := 16) rfl ?_); refine store_event (t := 3) (p := 16) (v := ?vo1) (w1 := (wr.setCell ⟨go, i * 3, none⟩ (.int .i64 kk))) ?hg ?ho ?hn ?hr ?_; (case ho => rfl); (case hg => rfl); (case hn => rfl); (case hr => first | (go_simp; done) | (go_simp; rfl)); intro w4 hw; rw [← hw] at P1 P2; have nb_ := Aside0.mk ((by rw [hw]; exact below_set (HB.out) GB.out : Below w0.heap.size w0 w4)); have nk_ := Aside0.mk (Kept.of_grown P2.out HK.out (fun k hk => by injection hk with hk; subst hk; exact HGO.out)); clear HB HK HO P2 hw; have HB := nb_; have HK := nk_; clear nb_ nk_; obtain ⟨⟨cc, hcl, hcc⟩, hfr, p1, p2⟩ := S_field P1.out z39 (i : Int) hzz hltz 1 (by decide) (.int .i64 (kk + 1)) ⟨kk, kk + 1, l[i].f2⟩ (k39_g1 HPL.out); obtain ⟨t0, t1, t2, rfl⟩ : ∃ u0 u1 u2, cc = [u0, u1, u2] := (by match cc, hcl with | [a, b, c], _ => exact ⟨a, b, c, rfl⟩); have hz1 := hcc 1 _ rfl; have hf1 := hfr 1; simp only [show k39.sz = 3 from rfl, Int.toNat_natCast, Nat.add_zero] at hz1 hf1 p1 p2; rw [set_mid _ _ _ _ _ HPL.out] at p1; have Q1 := Aside0.mk p1; have Q2 := Aside0.mk p2; clear hcc hfr p1 p2 hcl P1) | ((with_reducible refine gate_store (t := 3) (p := 23) rfl ?_); refine store_event (t := 3) (p := 23) (v := ?vo2) (w1 := (w4.setCell ⟨go, i * 3 + 1, none⟩ (.int .i64 (kk + 1)))) ?hg ?ho ?hn ?hr ?_; (case ho => rfl); (case hg => rfl); (case hn => rfl); (case hr => first | (go_simp; done) | (go_simp; rfl)); intro w5 hw; rw [← hw] at Q1 Q2; have nb_ := Aside0.mk ((by rw [hw]; exact below_set (HB.out) GB.out : Below w0.heap.size w0 w5)); have nk_ := Aside0.mk (Kept.of_grown Q2.out HK.out (fun k hk => by injection hk with hk; subst hk; exact HGO.out)); clear HB HK Q2 hw; have HB := nb_; have HK := nk_; clear nb_ nk_; obtain ⟨oki, A2, c2, g2, hz2, hok2, hH2⟩ := lend_lines HPL.out Q1.out hltz; have G2 := Aside0.mk g2; have OK2 := Aside0.mk hok2; have HH2 := Aside0.mk hH2; clear g2 hok2 hH2 Q1) | ((with_reducible refine gate_callee (f := 31) rfl ?_); refine goesL_ (some 32) rfl rfl Try.func31 (by kernel_rfl) rfl #[.slice A2 l[i].f2.length c2, .int .i64 (kk + 2)] rfl (by (try simp only [List.map_toArray, List.map_cons, List.map_nil]); first | done | rfl) ?_; (refine (laws_markStringS.calls km oki _ l[i].f2 (kk + 2) (kk + 2 + l[i].f2.length) (mkS mt l[i].f2 (kk + 2)) w0 _ (by exact HB.out) (by exact G2.out) HMS.out).mono ?_); rintro e w6 ⟨rfl, hr, hb, hk⟩; refine ⟨_, rfl, ?_⟩; have hS := back_lines HPL.out HH2.out hr hk (fun k h => .inr (Nat.le_trans HK.out.1 h)); have nk_ := Aside0.mk (Kept.then_ HK.out hk (fun k h => OK2.out k h)); clear HK HB; have HK := nk_; have HB := Aside0.mk hb; have HO := Aside0.mk hS; clear nk_ hb hS hr hk))
      have hR := HR.out
      rw [show (⟨kk, kk + 1, mkS mt l[i].f2 (kk + 2)⟩ : Dl) :: l.drop (i + 1) = [⟨kk, kk + 1, mkS mt l[i].f2 (kk + 2)⟩] ++ l.drop (i + 1) from rfl, ← List.append_assoc] at HO
      have hmk : mkD mt (l.take i) a ++ [⟨kk, kk + 1, mkS mt l[i].f2 (kk + 2)⟩] = mkD mt (l.take (i + 1)) a := by
        rw [← List.take_append_getElem HLT.out, mkD_app, HKK.out]
      rw [hmk] at HO
      clear hmk hw1 hw1b hw2 hw2b
      go_roundg (l.length - (i + 1))
      case measure => have := HLT.out; omega
      case rel => exact ⟨i + 1, by rw [hR.2.2], by go_num, HLT.out, by omega, HO, HK, HB⟩
    · obtain rfl : i = l.length := by omega
      have hltz : ¬ (l.length : Int) < (l.length : Int) := by omega
      rw [List.take_length] at HO ⊢
      rw [List.drop_length, List.append_nil] at HO
      go_wp2
      go_ret
      exact ⟨rfl, HO.out, HB.out, HK.out⟩
end Go.Proofs.Ytfnhjaiioojbkaa.Q
end
section
namespace Go.Proofs.Ytfnhjaiioojbkaa.Q
open Go.RowKit Go.Proofs.YtfnhjaiioojbkaaW.PrintWords
set_option linter.unusedVariables false
set_option linter.unusedSimpArgs false
theorem S_span {α : Type} {d : Kd α} {e : Nat} {W w1 : World} {ok : Nat → Prop} {v : Value} {xs : List α} {b prev : Nat} (h : Kd.S d e w1 W.heap.size ok v xs) (hp : prev ≤ W.heap.size) (hb : b ≤ W.heap.size) (hs : W.heap.size ≤ w1.heap.size) :
    ∃ lo hi : Nat, (prev ≤ lo ∧ lo ≤ hi) ∧ hi ≤ w1.heap.size ∧ Kd.S d e w1 b (fun k => lo ≤ k ∧ k < hi) v xs :=
  ⟨W.heap.size, w1.heap.size, ⟨hp, hs⟩, Nat.le_refl _, Kd.S_lower (Kd.S_mono (Kd.S_bound h) (fun k hk => ⟨hk.2.1, hk.2.2.1⟩)) hb⟩
theorem markDSp {mt : Int → ByteArray} (hm : Mt mt) (P0 : Nat → Prop) (u : Value) (l : List Dl) (a m : Int) (w0 w : World) (hB : Below w0.heap.size w0 w) (ho : Kd.S k39 39 w w0.heap.size P0 u l) (h0 : 0 ≤ a) (hl : l.length ≤ 1000000) (h1 : a + cnD l ≤ 4000000000000000000) (he : a + cnD l = m) (X : List Dl) (hX : mkD mt l a = X) :
    Calls Try.prog 32 #[u, .int .i64 a] w fun e w' => e = .returned (.int .i64 m) ∧ Kd.S k39 39 w' w0.heap.size (fun k => P0 k ∨ w.heap.size ≤ k) u X ∧ Below w0.heap.size w0 w' ∧ Kept w w' P0 := by
  subst he
  subst hX
  exact markDS_calls hm P0 u l a w0 w hB ho h0 hl h1
theorem R_map {α β : Type} {d : Kd α} {d' : Kd β} {f : α → β} (hsz : d'.sz = d.sz) {e : Nat} {w : World} {base : Nat} {ok : Nat → Prop} {v : Value} {xs : List α} (hf : ∀ ok x cs, d.M w base ok x cs → d'.M w base ok (f x) cs) (h : Kd.R d e w base ok v xs) : Kd.R d' e w base ok v (xs.map f) := by
  obtain ⟨h0, inner, ho, hr⟩ := h
  refine ⟨h0, inner, by rw [List.length_map, hsz]; exact ho, by rw [List.length_map, hsz]; exact hr.1, fun j p hj => ?_⟩
  rw [List.getElem?_map] at hj
  obtain ⟨q, hq, rfl⟩ := Option.map_eq_some_iff.mp hj
  rw [hsz]
  exact hf _ _ _ (hr.2 j q hq)
theorem S_map {α β : Type} {d : Kd α} {d' : Kd β} {f : α → β} (hsz : d'.sz = d.sz) {e : Nat} {w : World} {base : Nat} {ok : Nat → Prop} {v : Value} {xs : List α} (hf : ∀ ok x cs, d.M w base ok x cs → d'.M w base ok (f x) cs) (h : Kd.S d e w base ok v xs) : Kd.S d' e w base ok v (xs.map f) := by
  obtain ⟨g, h⟩ := h
  refine ⟨g, ?_⟩
  have e : (xs.map f).zipIdx = xs.zipIdx.map (fun p => (f p.1, p.2)) := by rw [List.zipIdx_map]; rfl
  rw [e]
  exact R_map (d := Kd.tag g d) (d' := Kd.tag g d') (f := fun p => (f p.1, p.2)) hsz (fun ok x cs hM => hf _ _ _ hM) h
end Go.Proofs.Ytfnhjaiioojbkaa.Q
end
section
namespace Go.Proofs.Ytfnhjaiioojbkaa.Q
open Go.RowKit Go.Proofs.YtfnhjaiioojbkaaW.PrintWords Go.Proofs.YtfnhjaiioojbkaaW.PrintLast Go.Proofs.YtfnhjaiioojbkaaW.PrintMore
attribute [local go_sem] max2_int min2_int max_two min_two max_three min_three max_four min_four   -- for this text's walks alone
set_option linter.unusedVariables false
set_option linter.unusedSimpArgs false
def laws_eqPacked.f (k : Nat) (a0_0 : Int) (l0_1 : List (S39)) (a1_0 : Int) (l1_1 : List (S39)) : Option (Bool) := if a0_0 = a1_0 then ((laws_eqDeltaS.f k l0_1 l1_1).bind fun t1026 => (if t1026 = true then (some true) else (some false))) else (some false)
set_option maxHeartbeats 8000000 in
set_option maxRecDepth 100000 in
theorem laws_eqPacked.calls (k : Nat) (a0_0 : Int) (A0_1 : Option Addr) (c0_1 : Nat) (l0_1 : List (S39)) (a1_0 : Int) (A1_1 : Option Addr) (c1_1 : Nat) (l1_1 : List (S39)) (r : Bool) (w : World) (hr0_1 : Kd.C k39 w A0_1 l0_1.length l0_1) (hc0_1 : l0_1.length ≤ c0_1) (hr1_1 : Kd.C k39 w A1_1 l1_1.length l1_1) (hc1_1 : l1_1.length ≤ c1_1) (h : laws_eqPacked.f k a0_0 l0_1 a1_0 l1_1 = some r) :
 Calls Try.prog 99 #[.agg #[.int .i64 a0_0, .slice A0_1 l0_1.length c0_1], .agg #[.int .i64 a1_0, .slice A1_1 l1_1.length c1_1]] w fun e w' => e = .returned (.bool r) ∧ Below w.heap.size w w' := by
 have hu53 := Try.underlying53; have HR0_1 := Aside0.mk hr0_1; have HC0_1 := Aside0.mk hc0_1; clear hr0_1 hc0_1; have HR1_1 := Aside0.mk hr1_1; have HC1_1 := Aside0.mk hc1_1; clear hr1_1 hc1_1; have HB := Aside0.mk (Below.refl w.heap.size w); have H : (if a0_0 = a1_0 then ((laws_eqDeltaS.f k l0_1 l1_1).bind fun t1026 => (if t1026 = true then (some true) else (some false))) else (some false)) = some r := h; clear h; by_cases c3 : a0_0 = a1_0
 ·rw [if_pos c3] at H; have c3b0 : (a0_0 == a1_0) = true := beq_iff_eq.mpr c3; have c3b1 : (a0_0 != a1_0) = false := bne_eq_false_iff_eq.mpr c3; clear c3; replace H := Option.bind_eq_some_iff.mp H; obtain ⟨t1026, A40, H⟩ := H; replace H : (if t1026 = true then (some true) else (some false)) = some r := H; have A4 := Aside0.mk A40; clear A40; by_cases c5 : t1026 = true
  ·subst c5; (have H1 : (some true) = some r := by rw [if_pos rfl] at H; exact H); clear H; have H := H1; clear H1; obtain rfl := Option.some.inj H; go_enter Try.func99, Try.ntmps99; go_wp2_with (first | ((with_reducible refine gate_dst (N := 2) rfl ?_); refine box_event ?hg (N := 2) ?hd (cs := #[.int .i64 a0_0, .slice A0_1 l0_1.length c0_1]) (t := 53) ?hr ?_; (case hd => rfl); (case hg => rfl); (case hr => first | (go_simp; done) | (go_simp; rfl)); intro gb1024 hg w6 hbox hb; have n0_ := Aside0.mk (below_step (by repeat (first | (with_reducible first | exact HB.out | apply below_alloc | apply pw_below_drewN | apply below_drew1) | exact HB.out)) hb); have n1_ := Aside0.mk (hbox); have n2_ := Aside0.mk ((by rw [hg]; exact (below_size (by repeat (first | (with_reducible first | exact HB.out | apply below_alloc | apply pw_below_drewN | apply below_drew1) | exact HB.out))) : w.heap.size ≤ gb1024)); have n3_ := Aside0.mk ((by rw [hg]; exact (below_size (by repeat (first | (with_reducible first | exact HB.out | apply below_alloc | apply pw_below_drewN | apply below_drew1) | exact HB.out))) : w.heap.size ≤ gb1024)); clear HB; have HB := n0_; have BK1024 := n1_; have GW1024 := n2_; have GE1024 := n3_; clear n0_ n1_ n2_ n3_; clear hb hbox hg) | ((with_reducible refine gate_dst (N := 3) rfl ?_); refine box_event ?hg (N := 3) ?hd (cs := #[.int .i64 a1_0, .slice A1_1 l1_1.length c1_1]) (t := 53) ?hr ?_; (case hd => rfl); (case hg => rfl); (case hr => first | (go_simp; done) | (go_simp; rfl)); intro gb1025 hg w7 hbox hb; have n0_ := Aside0.mk (blk_below (g := gb1024) (o := .cells #[.int .i64 a0_0, .slice A0_1 l0_1.length c0_1] 53 (0, 0)) (by (with_reducible repeat (first | refine blk_drewN ?_ _ | refine blk_drew ?_ | refine blk_alloc ?_ _)); exact BK1024.out) hb); have n1_ := Aside0.mk (below_step (by repeat (first | (with_reducible first | exact HB.out | apply below_alloc | apply pw_below_drewN | apply below_drew1 | refine below_set ?_ GE1024.out) | exact HB.out)) hb); have n2_ := Aside0.mk (hbox); have n3_ := Aside0.mk ((by rw [hg]; exact (below_size (by repeat (first | (with_reducible first | exact HB.out | apply below_alloc | apply pw_below_drewN | apply below_drew1 | refine below_set ?_ GE1024.out) | exact HB.out))) : w.heap.size ≤ gb1025)); have n4_ := Aside0.mk ((by rw [hg]; exact (below_size (by repeat (first | (with_reducible first | exact HB.out | apply below_alloc | apply pw_below_drewN | apply below_drew1 | refine below_set ?_ GE1024.out) | exact HB.out))) : w.heap.size ≤ gb1025)); have n5_ := Aside0.mk ((by rw [hg]; exact Nat.ne_of_lt (blk_lt (g := gb1024) (o := .cells #[.int .i64 a0_0, .slice A0_1 l0_1.length c0_1] 53 (0, 0)) (by (with_reducible repeat (first | refine blk_drewN ?_ _ | refine blk_drew ?_ | refine blk_alloc ?_ _)); exact BK1024.out)) : gb1024 ≠ gb1025)); have n6_ := Aside0.mk ((by rw [hg]; exact Nat.ne_of_gt (blk_lt (g := gb1024) (o := .cells #[.int .i64 a0_0, .slice A0_1 l0_1.length c0_1] 53 (0, 0)) (by (with_reducible repeat (first | refine blk_drewN ?_ _ | refine blk_drew ?_ | refine blk_alloc ?_ _)); exact BK1024.out)) : gb1025 ≠ gb1024)); clear BK1024; clear HB; have BK1024 := n0_; have HB := n1_; have BK1025 := n2_; have GW1025 := n3_; have GE1025 := n4_; have NB1024_1025 := n5_; have NB1025_1024 := n6_; clear n0_ n1_ n2_ n3_ n4_ n5_ n6_; clear hb hbox hg; have hnb8 := NB1024_1025.out; have hnc8 := NB1025_1024.out; have hcz9_0 : w7.cell? ⟨gb1024, 0, none⟩ = some (.int .i64 a0_0) := (blk_cell BK1024.out 0).trans rfl; have hcz9_1 : w7.cell? ⟨gb1024, 1, none⟩ = some (.slice A0_1 l0_1.length c0_1) := (blk_cell BK1024.out 1).trans rfl; have hfz9_0 := blk_frozen BK1024.out 0; have hfz9_1 := blk_frozen BK1024.out 1; have hcz10_0 : w7.cell? ⟨gb1025, 0, none⟩ = some (.int .i64 a1_0) := (blk_cell BK1025.out 0).trans rfl; have hcz10_1 : w7.cell? ⟨gb1025, 1, none⟩ = some (.slice A1_1 l1_1.length c1_1) := (blk_cell BK1025.out 1).trans rfl; have hfz10_0 := blk_frozen BK1025.out 0; have hfz10_1 := blk_frozen BK1025.out 1) | ((with_reducible refine gate_callee (f := 29) rfl ?_); refine goesL_ (some 14) rfl rfl Try.func29 (by kernel_rfl) rfl #[.slice A0_1 l0_1.length c0_1, .slice A1_1 l1_1.length c1_1] rfl (by (try simp only [List.map_toArray, List.map_cons, List.map_nil]); first | done | rfl | (simp only [List.length_drop, List.length_take]; rfl)) ?_; (with_reducible refine (laws_eqDeltaS.calls k _ _ l0_1 _ _ l1_1 true _ ?side1 ?side2 ?side3 ?side4 A4.out).mono ?_); (case side1 => repeat (first | exact (Kd.C_below HR0_1.out HB.out) | (with_reducible refine Kd.C_alloc ?_ _) | (with_reducible refine Kd.C_drewN ?_ _) | (with_reducible refine Kd.C_drew ?_))); (case side2 => exact HC0_1.out); (case side3 => repeat (first | exact (Kd.C_below HR1_1.out HB.out) | (with_reducible refine Kd.C_alloc ?_ _) | (with_reducible refine Kd.C_drewN ?_ _) | (with_reducible refine Kd.C_drew ?_))); (case side4 => exact HC1_1.out); rintro e w11 ⟨rfl, hb⟩; refine ⟨_, rfl, ?_⟩; have n0_ := Aside0.mk (blk_below (g := gb1024) (o := .cells #[.int .i64 a0_0, .slice A0_1 l0_1.length c0_1] 53 (0, 0)) (by (with_reducible repeat (first | refine blk_drewN ?_ _ | refine blk_drew ?_ | refine blk_alloc ?_ _)); exact BK1024.out) hb); have n1_ := Aside0.mk (blk_below (g := gb1025) (o := .cells #[.int .i64 a1_0, .slice A1_1 l1_1.length c1_1] 53 (0, 0)) (by (with_reducible repeat (first | refine blk_drewN ?_ _ | refine blk_drew ?_ | refine blk_alloc ?_ _)); exact BK1025.out) hb); have n2_ := Aside0.mk (below_step (by repeat (first | (with_reducible first | exact HB.out | apply below_alloc | apply pw_below_drewN | apply below_drew1 | refine below_set ?_ GE1024.out | refine below_set ?_ GE1025.out) | exact HB.out)) hb); clear BK1024; clear BK1025; clear HB; have BK1024 := n0_; have BK1025 := n1_; have HB := n2_; clear n0_ n1_ n2_; (try clear hb); (try clear hb2); (try clear hk); (try clear hi)))
   go_ret; exact ⟨by first | rfl | (simp <;> rfl) | (simp [*] <;> rfl), by repeat (first | (with_reducible first | exact HB.out | apply below_alloc | apply pw_below_drewN | apply below_drew1 | refine below_set ?_ GE1024.out | refine below_set ?_ GE1025.out) | exact HB.out)⟩
  ·replace c5 := Bool.eq_false_iff.mpr c5; subst c5; (have H1 : (some false) = some r := by rw [if_neg (show ¬ (false = true) by decide)] at H; exact H); clear H; have H := H1; clear H1; obtain rfl := Option.some.inj H; go_enter Try.func99, Try.ntmps99; go_wp2_with (first | ((with_reducible refine gate_dst (N := 2) rfl ?_); refine box_event ?hg (N := 2) ?hd (cs := #[.int .i64 a0_0, .slice A0_1 l0_1.length c0_1]) (t := 53) ?hr ?_; (case hd => rfl); (case hg => rfl); (case hr => first | (go_simp; done) | (go_simp; rfl)); intro gb1024 hg w12 hbox hb; have n0_ := Aside0.mk (below_step (by repeat (first | (with_reducible first | exact HB.out | apply below_alloc | apply pw_below_drewN | apply below_drew1) | exact HB.out)) hb); have n1_ := Aside0.mk (hbox); have n2_ := Aside0.mk ((by rw [hg]; exact (below_size (by repeat (first | (with_reducible first | exact HB.out | apply below_alloc | apply pw_below_drewN | apply below_drew1) | exact HB.out))) : w.heap.size ≤ gb1024)); have n3_ := Aside0.mk ((by rw [hg]; exact (below_size (by repeat (first | (with_reducible first | exact HB.out | apply below_alloc | apply pw_below_drewN | apply below_drew1) | exact HB.out))) : w.heap.size ≤ gb1024)); clear HB; have HB := n0_; have BK1024 := n1_; have GW1024 := n2_; have GE1024 := n3_; clear n0_ n1_ n2_ n3_; clear hb hbox hg) | ((with_reducible refine gate_dst (N := 3) rfl ?_); refine box_event ?hg (N := 3) ?hd (cs := #[.int .i64 a1_0, .slice A1_1 l1_1.length c1_1]) (t := 53) ?hr ?_; (case hd => rfl); (case hg => rfl); (case hr => first | (go_simp; done) | (go_simp; rfl)); intro gb1025 hg w13 hbox hb; have n0_ := Aside0.mk (blk_below (g := gb1024) (o := .cells #[.int .i64 a0_0, .slice A0_1 l0_1.length c0_1] 53 (0, 0)) (by (with_reducible repeat (first | refine blk_drewN ?_ _ | refine blk_drew ?_ | refine blk_alloc ?_ _)); exact BK1024.out) hb); have n1_ := Aside0.mk (below_step (by repeat (first | (with_reducible first | exact HB.out | apply below_alloc | apply pw_below_drewN | apply below_drew1 | refine below_set ?_ GE1024.out) | exact HB.out)) hb); have n2_ := Aside0.mk (hbox); have n3_ := Aside0.mk ((by rw [hg]; exact (below_size (by repeat (first | (with_reducible first | exact HB.out | apply below_alloc | apply pw_below_drewN | apply below_drew1 | refine below_set ?_ GE1024.out) | exact HB.out))) : w.heap.size ≤ gb1025)); have n4_ := Aside0.mk ((by rw [hg]; exact (below_size (by repeat (first | (with_reducible first | exact HB.out | apply below_alloc | apply pw_below_drewN | apply below_drew1 | refine below_set ?_ GE1024.out) | exact HB.out))) : w.heap.size ≤ gb1025)); have n5_ := Aside0.mk ((by rw [hg]; exact Nat.ne_of_lt (blk_lt (g := gb1024) (o := .cells #[.int .i64 a0_0, .slice A0_1 l0_1.length c0_1] 53 (0, 0)) (by (with_reducible repeat (first | refine blk_drewN ?_ _ | refine blk_drew ?_ | refine blk_alloc ?_ _)); exact BK1024.out)) : gb1024 ≠ gb1025)); have n6_ := Aside0.mk ((by rw [hg]; exact Nat.ne_of_gt (blk_lt (g := gb1024) (o := .cells #[.int .i64 a0_0, .slice A0_1 l0_1.length c0_1] 53 (0, 0)) (by (with_reducible repeat (first | refine blk_drewN ?_ _ | refine blk_drew ?_ | refine blk_alloc ?_ _)); exact BK1024.out)) : gb1025 ≠ gb1024)); clear BK1024; clear HB; have BK1024 := n0_; have HB := n1_; have BK1025 := n2_; have GW1025 := n3_; have GE1025 := n4_; have NB1024_1025 := n5_; have NB1025_1024 := n6_; clear n0_ n1_ n2_ n3_ n4_ n5_ n6_; clear hb hbox hg; have hnb14 := NB1024_1025.out; have hnc14 := NB1025_1024.out; have hcz15_0 : w13.cell? ⟨gb1024, 0, none⟩ = some (.int .i64 a0_0) := (blk_cell BK1024.out 0).trans rfl; have hcz15_1 : w13.cell? ⟨gb1024, 1, none⟩ = some (.slice A0_1 l0_1.length c0_1) := (blk_cell BK1024.out 1).trans rfl; have hfz15_0 := blk_frozen BK1024.out 0; have hfz15_1 := blk_frozen BK1024.out 1; have hcz16_0 : w13.cell? ⟨gb1025, 0, none⟩ = some (.int .i64 a1_0) := (blk_cell BK1025.out 0).trans rfl; have hcz16_1 : w13.cell? ⟨gb1025, 1, none⟩ = some (.slice A1_1 l1_1.length c1_1) := (blk_cell BK1025.out 1).trans rfl; have hfz16_0 := blk_frozen BK1025.out 0; have hfz16_1 := blk_frozen BK1025.out 1) | ((with_reducible refine gate_callee (f := 29) rfl ?_); refine goesL_ (some 14) rfl rfl Try.func29 (by kernel_rfl) rfl #[.slice A0_1 l0_1.length c0_1, .slice A1_1 l1_1.length c1_1] rfl (by (try simp only [List.map_toArray, List.map_cons, List.map_nil]); first | done | rfl | (simp only [List.length_drop, List.length_take]; rfl)) ?_; (with_reducible refine (laws_eqDeltaS.calls k _ _ l0_1 _ _ l1_1 false _ ?side1 ?side2 ?side3 ?side4 A4.out).mono ?_); (case side1 => repeat (first | exact (Kd.C_below HR0_1.out HB.out) | (with_reducible refine Kd.C_alloc ?_ _) | (with_reducible refine Kd.C_drewN ?_ _) | (with_reducible refine Kd.C_drew ?_))); (case side2 => exact HC0_1.out); (case side3 => repeat (first | exact (Kd.C_below HR1_1.out HB.out) | (with_reducible refine Kd.C_alloc ?_ _) | (with_reducible refine Kd.C_drewN ?_ _) | (with_reducible refine Kd.C_drew ?_))); (case side4 => exact HC1_1.out); rintro e w17 ⟨rfl, hb⟩; refine ⟨_, rfl, ?_⟩; have n0_ := Aside0.mk (blk_below (g := gb1024) (o := .cells #[.int .i64 a0_0, .slice A0_1 l0_1.length c0_1] 53 (0, 0)) (by (with_reducible repeat (first | refine blk_drewN ?_ _ | refine blk_drew ?_ | refine blk_alloc ?_ _)); exact BK1024.out) hb); have n1_ := Aside0.mk (blk_below (g := gb1025) (o := .cells #[.int .i64 a1_0, .slice A1_1 l1_1.length c1_1] 53 (0, 0)) (by (with_reducible repeat (first | refine blk_drewN ?_ _ | refine blk_drew ?_ | refine blk_alloc ?_ _)); exact BK1025.out) hb); have n2_ := Aside0.mk (below_step (by repeat (first | (with_reducible first | exact HB.out | apply below_alloc | apply pw_below_drewN | apply below_drew1 | refine below_set ?_ GE1024.out | refine below_set ?_ GE1025.out) | exact HB.out)) hb); clear BK1024; clear BK1025; clear HB; have BK1024 := n0_; have BK1025 := n1_; have HB := n2_; clear n0_ n1_ n2_; (try clear hb); (try clear hb2); (try clear hk); (try clear hi)))
   go_ret; exact ⟨by first | rfl | (simp <;> rfl) | (simp [*] <;> rfl), by repeat (first | (with_reducible first | exact HB.out | apply below_alloc | apply pw_below_drewN | apply below_drew1 | refine below_set ?_ GE1024.out | refine below_set ?_ GE1025.out) | exact HB.out)⟩
 ·rw [if_neg c3] at H; have c3b0 : (a0_0 == a1_0) = false := beq_eq_false_iff_ne.mpr c3; have c3b1 : (a0_0 != a1_0) = true := bne_iff_ne.mpr c3; obtain rfl := Option.some.inj H; go_enter Try.func99, Try.ntmps99; go_wp2_with (first | ((with_reducible refine gate_dst (N := 2) rfl ?_); refine box_event ?hg (N := 2) ?hd (cs := #[.int .i64 a0_0, .slice A0_1 l0_1.length c0_1]) (t := 53) ?hr ?_; (case hd => rfl); (case hg => rfl); (case hr => first | (go_simp; done) | (go_simp; rfl)); intro gb1024 hg w18 hbox hb; have n0_ := Aside0.mk (below_step (by repeat (first | (with_reducible first | exact HB.out | apply below_alloc | apply pw_below_drewN | apply below_drew1) | exact HB.out)) hb); have n1_ := Aside0.mk (hbox); have n2_ := Aside0.mk ((by rw [hg]; exact (below_size (by repeat (first | (with_reducible first | exact HB.out | apply below_alloc | apply pw_below_drewN | apply below_drew1) | exact HB.out))) : w.heap.size ≤ gb1024)); have n3_ := Aside0.mk ((by rw [hg]; exact (below_size (by repeat (first | (with_reducible first | exact HB.out | apply below_alloc | apply pw_below_drewN | apply below_drew1) | exact HB.out))) : w.heap.size ≤ gb1024)); clear HB; have HB := n0_; have BK1024 := n1_; have GW1024 := n2_; have GE1024 := n3_; clear n0_ n1_ n2_ n3_; clear hb hbox hg) | ((with_reducible refine gate_dst (N := 3) rfl ?_); refine box_event ?hg (N := 3) ?hd (cs := #[.int .i64 a1_0, .slice A1_1 l1_1.length c1_1]) (t := 53) ?hr ?_; (case hd => rfl); (case hg => rfl); (case hr => first | (go_simp; done) | (go_simp; rfl)); intro gb1025 hg w19 hbox hb; have n0_ := Aside0.mk (blk_below (g := gb1024) (o := .cells #[.int .i64 a0_0, .slice A0_1 l0_1.length c0_1] 53 (0, 0)) (by (with_reducible repeat (first | refine blk_drewN ?_ _ | refine blk_drew ?_ | refine blk_alloc ?_ _)); exact BK1024.out) hb); have n1_ := Aside0.mk (below_step (by repeat (first | (with_reducible first | exact HB.out | apply below_alloc | apply pw_below_drewN | apply below_drew1 | refine below_set ?_ GE1024.out) | exact HB.out)) hb); have n2_ := Aside0.mk (hbox); have n3_ := Aside0.mk ((by rw [hg]; exact (below_size (by repeat (first | (with_reducible first | exact HB.out | apply below_alloc | apply pw_below_drewN | apply below_drew1 | refine below_set ?_ GE1024.out) | exact HB.out))) : w.heap.size ≤ gb1025)); have n4_ := Aside0.mk ((by rw [hg]; exact (below_size (by repeat (first | (with_reducible first | exact HB.out | apply below_alloc | apply pw_below_drewN | apply below_drew1 | refine below_set ?_ GE1024.out) | exact HB.out))) : w.heap.size ≤ gb1025)); have n5_ := Aside0.mk ((by rw [hg]; exact Nat.ne_of_lt (blk_lt (g := gb1024) (o := .cells #[.int .i64 a0_0, .slice A0_1 l0_1.length c0_1] 53 (0, 0)) (by (with_reducible repeat (first | refine blk_drewN ?_ _ | refine blk_drew ?_ | refine blk_alloc ?_ _)); exact BK1024.out)) : gb1024 ≠ gb1025)); have n6_ := Aside0.mk ((by rw [hg]; exact Nat.ne_of_gt (blk_lt (g := gb1024) (o := .cells #[.int .i64 a0_0, .slice A0_1 l0_1.length c0_1] 53 (0, 0)) (by (with_reducible repeat (first | refine blk_drewN ?_ _ | refine blk_drew ?_ | refine blk_alloc ?_ _)); exact BK1024.out)) : gb1025 ≠ gb1024)); clear BK1024; clear HB; have BK1024 := n0_; have HB := n1_; have BK1025 := n2_; have GW1025 := n3_; have GE1025 := n4_; have NB1024_1025 := n5_; have NB1025_1024 := n6_; clear n0_ n1_ n2_ n3_ n4_ n5_ n6_; clear hb hbox hg; have hnb20 := NB1024_1025.out; have hnc20 := NB1025_1024.out; have hcz21_0 : w19.cell? ⟨gb1024, 0, none⟩ = some (.int .i64 a0_0) := (blk_cell BK1024.out 0).trans rfl; have hcz21_1 : w19.cell? ⟨gb1024, 1, none⟩ = some (.slice A0_1 l0_1.length c0_1) := (blk_cell BK1024.out 1).trans rfl; have hfz21_0 := blk_frozen BK1024.out 0; have hfz21_1 := blk_frozen BK1024.out 1; have hcz22_0 : w19.cell? ⟨gb1025, 0, none⟩ = some (.int .i64 a1_0) := (blk_cell BK1025.out 0).trans rfl; have hcz22_1 : w19.cell? ⟨gb1025, 1, none⟩ = some (.slice A1_1 l1_1.length c1_1) := (blk_cell BK1025.out 1).trans rfl; have hfz22_0 := blk_frozen BK1025.out 0; have hfz22_1 := blk_frozen BK1025.out 1))
  go_ret; exact ⟨by first | rfl | (simp <;> rfl) | (simp [*] <;> rfl), by repeat (first | (with_reducible first | exact HB.out | apply below_alloc | apply pw_below_drewN | apply below_drew1 | refine below_set ?_ GE1024.out | refine below_set ?_ GE1025.out) | exact HB.out)⟩
end Go.Proofs.Ytfnhjaiioojbkaa.Q
end
section
namespace Go.Proofs.Ytfnhjaiioojbkaa.Q
open Go.RowKit Go.Proofs.YtfnhjaiioojbkaaW.PrintWords Go.Proofs.YtfnhjaiioojbkaaW.PrintLast Go.Proofs.YtfnhjaiioojbkaaW.PrintMore
attribute [local go_sem] max2_int min2_int max_two min_two max_three min_three max_four min_four   -- for this text's walks alone
set_option linter.unusedVariables false
set_option linter.unusedSimpArgs false
def laws_eqPackedS.l0 : Nat → List (S53) → List (S53) → Int → Option (Bool)
 | 0, _, _, _ => none
 | k + 1, x0, x1, x5 => if x5 < (x0.length : Int) then (if 0 ≤ x5 then (if x5 < (x1.length : Int) then ((laws_eqPacked.f k ((rd_T53 x0 x5).f0) ((rd_T53 x0 x5).f1) ((rd_T53 x1 x5).f0) ((rd_T53 x1 x5).f1)).bind fun t1029 => (if t1029 = true then (laws_eqPackedS.l0 k x0 x1 (wrap64 (x5 + 1))) else (some false))) else (none)) else (none)) else (some true)
def laws_eqPackedS.f (k : Nat) (l0 : List (S53)) (l1 : List (S53)) : Option (Bool) := if (l0.length : Int) = (l1.length : Int) then (laws_eqPackedS.l0 k l0 l1 0) else (some false)
def laws_eqPackedS.T6 : Bool × List (List Nat × List Nat) := (true, [([], []), ([], []), ([0, 1], [0, 1]), ([2], [2]), ([], []), ([], []), ([4, 5], [4, 5]), ([6], [6]), ([3, 7], [3, 7]), ([8], [8])])
def laws_eqPackedS.B6 : List Nat := [0, 0, 3, 7, 0, 0, 48, 112, 255, 511]
theorem laws_eqPackedS.tab6 : rtab .any (opsOf Try.f55 6) = laws_eqPackedS.T6 := by kernel_rfl
theorem laws_eqPackedS.bits6 : waitsOk laws_eqPackedS.T6.2 laws_eqPackedS.B6 = true := by kernel_rfl
set_option maxHeartbeats 8000000 in
set_option maxRecDepth 100000 in
theorem laws_eqPackedS.calls (k : Nat) (A0 : Option Addr) (c0 : Nat) (l0 : List (S53)) (A1 : Option Addr) (c1 : Nat) (l1 : List (S53)) (r : Bool) (w : World) (hr0 : Kd.C k53 w A0 l0.length l0) (hc0 : l0.length ≤ c0) (hr1 : Kd.C k53 w A1 l1.length l1) (hc1 : l1.length ≤ c1) (h : laws_eqPackedS.f k l0 l1 = some r) :
 Calls Try.prog 55 #[.slice A0 l0.length c0, .slice A1 l1.length c1] w fun e w' => e = .returned (.bool r) ∧ Below w.heap.size w w' := by
 have hu53 := Try.underlying53; have HR0 := Aside0.mk hr0; have HC0 := Aside0.mk hc0; clear hr0 hc0; have HR1 := Aside0.mk hr1; have HC1 := Aside0.mk hc1; clear hr1 hc1; have HB := Aside0.mk (Below.refl w.heap.size w); have H : (if (l0.length : Int) = (l1.length : Int) then (laws_eqPackedS.l0 k l0 l1 0) else (some false)) = some r := h; clear h; by_cases c3 : (l0.length : Int) = (l1.length : Int)
 ·rw [if_pos c3] at H; have c3b0 : ((l0.length : Int) == (l1.length : Int)) = true := beq_iff_eq.mpr c3; have c3b1 : ((l0.length : Int) != (l1.length : Int)) = false := bne_eq_false_iff_eq.mpr c3; (have c3b2 : (l0.length == l1.length) = true := by first | simpa using c3 | (simp at c3 ⊢; omega)); clear c3; have H' := Aside0.mk H; clear H; go_enter Try.func55, Try.ntmps55; go_wp2; go_loopg [5] k (fun kq v5 w' => ∃ (x5_1 : Int), v5 = .int .i64 x5_1 ∧ Aside0 (laws_eqPackedS.l0 kq l0 l1 x5_1 = some r) ∧ Aside0 (kq ≤ k) ∧ Aside0 (Below w.heap.size w w'))
  case atStart => exact ⟨(0), (by first | rfl | (simp; done) | (simp [*]; done)), H', ⟨Nat.le_refl _⟩, ⟨by repeat (first | (with_reducible first | exact HB.out | apply below_alloc | apply pw_below_drewN | apply below_drew1) | exact HB.out)⟩⟩
  case round =>
   clear H'; (try clear c1); (try clear p2); (try clear c3); (try clear c3b0); (try clear c3b1); (try clear c3b2); obtain ⟨x5_1, rfl, HA, HK1, HB⟩ := hrel
   cases gk with
   | zero => exact absurd HA.out (by simp [laws_eqPackedS.l0])
   | succ k1 =>
    have H := HA.out; clear HA; simp only [laws_eqPackedS.l0] at H; by_cases c4 : x5_1 < (l0.length : Int)
    ·rw [if_pos c4] at H; have c4b0 : decide (x5_1 < (l0.length : Int)) = true := decide_eq_true c4; clear c4; by_cases c5 : 0 ≤ x5_1
     ·rw [if_pos c5] at H; have c5b0 : decide (0 ≤ x5_1) = true := decide_eq_true c5; clear c5; by_cases c6 : x5_1 < (l1.length : Int)
      ·rw [if_pos c6] at H; have c6b0 : decide (x5_1 < (l1.length : Int)) = true := decide_eq_true c6; clear c6; replace H := Option.bind_eq_some_iff.mp H; obtain ⟨t1029, A70, H⟩ := H; replace H : (if t1029 = true then (laws_eqPackedS.l0 k1 l0 l1 (wrap64 (x5_1 + 1))) else (some false)) = some r := H; have A7 := Aside0.mk A70; clear A70; by_cases c8 : t1029 = true
       ·subst c8; (have H1 : (laws_eqPackedS.l0 k1 l0 l1 (wrap64 (x5_1 + 1))) = some r := by rw [if_pos rfl] at H; exact H); clear H; have H := H1; clear H1; have H' := Aside0.mk H; clear H; (try go_wp2); have n0_ := Aside0.mk (below_drew1 HB.out); clear HB; have HB := n0_; clear n0_; have p1027 : 0 ≤ (x5_1 : Int) := of_decide_eq_true (by assumption); have q1027 : x5_1 < (l0.length : Int) := of_decide_eq_true (by assumption); obtain ⟨ad1027, A1027_1, c1027_1, e1027, hx1027_0, hx1027_1, hl1027_1, hi1027_1⟩ := at_T53 HR0.out x5_1 p1027 q1027; have hw1027_1 := hx1027_1; have hw1027_0 := hx1027_0; cases e1027; replace hx1027_0 := (HB.out.cell (World.block_lt_of_cell? w _ hx1027_0)).trans hx1027_0; replace hx1027_1 := (HB.out.cell (World.block_lt_of_cell? w _ hx1027_1)).trans hx1027_1; have HR1027_1 := Aside0.mk hi1027_1; have HC1027_1 := Aside0.mk hl1027_1; clear hi1027_1 hl1027_1; replace p1027 := eq_true p1027; replace q1027 := eq_true q1027; have p1028 : 0 ≤ (x5_1 : Int) := of_decide_eq_true (by assumption); have q1028 : x5_1 < (l1.length : Int) := of_decide_eq_true (by assumption); obtain ⟨ad1028, A1028_1, c1028_1, e1028, hx1028_0, hx1028_1, hl1028_1, hi1028_1⟩ := at_T53 HR1.out x5_1 p1028 q1028; have hw1028_1 := hx1028_1; have hw1028_0 := hx1028_0; cases e1028; replace hx1028_0 := (HB.out.cell (World.block_lt_of_cell? w _ hx1028_0)).trans hx1028_0; replace hx1028_1 := (HB.out.cell (World.block_lt_of_cell? w _ hx1028_1)).trans hx1028_1; have HR1028_1 := Aside0.mk hi1028_1; have HC1028_1 := Aside0.mk hl1028_1; clear hi1028_1 hl1028_1; replace p1028 := eq_true p1028; replace q1028 := eq_true q1028; refine start_ (n := 10) (S := fun w' => w'.cell? (ad1027.add ((x5_1).toNat * 2)) = some (.int .i64 ((rd_T53 l0 x5_1).f0)) ∧ w'.cell? ⟨(ad1027.add ((x5_1).toNat * 2)).block, (ad1027.add ((x5_1).toNat * 2)).off + 1, none⟩ = some (.slice A1027_1 ((rd_T53 l0 x5_1).f1).length c1027_1) ∧ w'.cell? (ad1028.add ((x5_1).toNat * 2)) = some (.int .i64 ((rd_T53 l1 x5_1).f0)) ∧ w'.cell? ⟨(ad1028.add ((x5_1).toNat * 2)).block, (ad1028.add ((x5_1).toNat * 2)).off + 1, none⟩ = some (.slice A1028_1 ((rd_T53 l1 x5_1).f1).length c1028_1)) (ds := []) #[f_, f_, f_, f_, f_, f_, f_, f_, f_, f_] (by kernel_rfl) rfl rfl ⟨((HB.out.cell (World.block_lt_of_cell? w _ hw1027_0)).trans hw1027_0), ((HB.out.cell (World.block_lt_of_cell? w _ hw1027_1)).trans hw1027_1), ((HB.out.cell (World.block_lt_of_cell? w _ hw1028_0)).trans hw1028_0), ((HB.out.cell (World.block_lt_of_cell? w _ hw1028_1)).trans hw1028_1)⟩ (fun hHeld => ?_); refine with_tabW laws_eqPackedS.tab6 laws_eqPackedS.bits6 (fun HT_ HW_ => ?_); generalize wr.drew = w9 at HB HR1027_1 HR1028_1 hx1027_0 hx1027_1 hx1028_0 hx1028_1 hHeld ⊢; refine pure_ (i := 0) (N := some 17) (v := ?_) (a' := ?_) #[t_, f_, f_, f_, f_, f_, f_, f_, f_, f_] rfl rfl (any_of HT_.out (by kernel_rfl)) (fun _ _ _ h => h) (Or.inl ⟨by rfl, ?_⟩) ?_ ?_
        rotate_left
        ·intro w'; go_simp
         with_reducible rfl
        rotate_left
        ·simp only [Act.put, List.setIfInBounds_toArray, List.set_cons_zero, List.set_cons_succ, i64_w, i32_w]
         rfl
        refine pure_ (i := 1) (N := some 18) (v := ?_) (a' := ?_) #[t_, t_, f_, f_, f_, f_, f_, f_, f_, f_] rfl rfl (any_of HT_.out (by kernel_rfl)) (fun _ _ _ h => h) (Or.inl ⟨by rfl, ?_⟩) ?_ ?_
        rotate_left
        ·intro w'; go_simp
         with_reducible rfl
        rotate_left
        ·simp only [Act.put, List.setIfInBounds_toArray, List.set_cons_zero, List.set_cons_succ, i64_w, i32_w]
         rfl
        refine pure_ (i := 2) (N := some 19) (v := ?_) (a' := ?_) #[t_, t_, t_, f_, f_, f_, f_, f_, f_, f_] rfl rfl (any_of HT_.out (by kernel_rfl)) (fun _ _ _ h => h) (Or.inl ⟨by rfl, ?_⟩) ?_ ?_
        rotate_left
        ·intro w'; go_simp
         with_reducible rfl
        rotate_left
        ·simp only [Act.put, List.setIfInBounds_toArray, List.set_cons_zero, List.set_cons_succ, i64_w, i32_w]
         rfl
        refine pure_ (i := 4) (N := some 21) (v := ?_) (a' := ?_) #[t_, t_, t_, f_, t_, f_, f_, f_, f_, f_] rfl rfl (any_of HT_.out (by kernel_rfl)) (fun _ _ _ h => h) (Or.inl ⟨by rfl, ?_⟩) ?_ ?_
        rotate_left
        ·intro w'; go_simp
         with_reducible rfl
        rotate_left
        ·simp only [Act.put, List.setIfInBounds_toArray, List.set_cons_zero, List.set_cons_succ, i64_w, i32_w]
         rfl
        refine pure_ (i := 5) (N := some 22) (v := ?_) (a' := ?_) #[t_, t_, t_, f_, t_, t_, f_, f_, f_, f_] rfl rfl (any_of HT_.out (by kernel_rfl)) (fun _ _ _ h => h) (Or.inl ⟨by rfl, ?_⟩) ?_ ?_
        rotate_left
        ·intro w'; go_simp
         with_reducible rfl
        rotate_left
        ·simp only [Act.put, List.setIfInBounds_toArray, List.set_cons_zero, List.set_cons_succ, i64_w, i32_w]
         rfl
        refine pure_ (i := 6) (N := some 23) (v := ?_) (a' := ?_) #[t_, t_, t_, f_, t_, t_, t_, f_, f_, f_] rfl rfl (any_of HT_.out (by kernel_rfl)) (fun _ _ _ h => h) (Or.inl ⟨by rfl, ?_⟩) ?_ ?_
        rotate_left
        ·intro w'; go_simp
         with_reducible rfl
        rotate_left
        ·simp only [Act.put, List.setIfInBounds_toArray, List.set_cons_zero, List.set_cons_succ, i64_w, i32_w]
         rfl
        refine take_ (i := 3) (N := some 20) (v := ?_) (a' := ?_) #[t_, t_, t_, t_, t_, t_, t_, f_, f_, f_] rfl rfl (take_ofW HT_.out HW_.out (by kernel_rfl)) (fun _ _ _ h => h) (Or.inl ⟨by rfl, ?_⟩) hHeld ?_ ?_
        rotate_left
        ·rintro w' ⟨s0, s1, s2, s3⟩; go_simp
         with_reducible rfl
        rotate_left
        ·simp only [Act.put, List.setIfInBounds_toArray, List.set_cons_zero, List.set_cons_succ, i64_w, i32_w]
         rfl
        refine take_ (i := 7) (N := some 24) (v := ?_) (a' := ?_) #[t_, t_, t_, t_, t_, t_, t_, t_, f_, f_] rfl rfl (take_ofW HT_.out HW_.out (by kernel_rfl)) (fun _ _ _ h => h) (Or.inl ⟨by rfl, ?_⟩) hHeld ?_ ?_
        rotate_left
        ·rintro w' ⟨s0, s1, s2, s3⟩; go_simp
         with_reducible rfl
        rotate_left
        ·simp only [Act.put, List.setIfInBounds_toArray, List.set_cons_zero, List.set_cons_succ, i64_w, i32_w]
         rfl
        refine one_ (i := 8) (N := some 25) #[t_, t_, t_, t_, t_, t_, t_, t_, t_, f_] rfl rfl (one_of HT_.out (by kernel_rfl)) (by decide) (fun K hK => ?_); refine goes_ Try.func99 (by kernel_rfl) rfl #[.agg #[.int .i64 ((rd_T53 l0 x5_1).f0), .slice A1027_1 ((rd_T53 l0 x5_1).f1).length c1027_1], .agg #[.int .i64 ((rd_T53 l1 x5_1).f0), .slice A1028_1 ((rd_T53 l1 x5_1).f1).length c1028_1]] (by rfl) rfl rfl (by (try simp only [List.map_toArray, List.map_cons, List.map_nil]); first | done | rfl | (simp only [List.length_drop, List.length_take]; rfl)) ?_
        with_reducible refine (laws_eqPacked.calls k1 ((rd_T53 l0 x5_1).f0) _ _ ((rd_T53 l0 x5_1).f1) ((rd_T53 l1 x5_1).f0) _ _ ((rd_T53 l1 x5_1).f1) true _ ?side1 ?side2 ?side3 ?side4 A7.out).mono ?_
        (case side1 => repeat (first | exact (Kd.C_below HR1027_1.out HB.out) | (with_reducible refine Kd.C_alloc ?_ _) | (with_reducible refine Kd.C_drewN ?_ _) | (with_reducible refine Kd.C_drew ?_)))
        (case side2 => exact HC1027_1.out)
        (case side3 => repeat (first | exact (Kd.C_below HR1028_1.out HB.out) | (with_reducible refine Kd.C_alloc ?_ _) | (with_reducible refine Kd.C_drewN ?_ _) | (with_reducible refine Kd.C_drew ?_)))
        (case side4 => exact HC1028_1.out)
        rintro e w10 ⟨rfl, hb⟩; refine ⟨_, rfl, ?_⟩; have n0_ := Aside0.mk (below_step (by repeat (first | (with_reducible first | exact HB.out | apply below_alloc | apply pw_below_drewN | apply below_drew1) | exact HB.out)) hb); clear HB; have HB := n0_; clear n0_
        (try clear hb)
        (try clear hb2)
        (try clear hk)
        (try clear hi)
        refine hK.out _ _ ⟨((HB.out.cell (World.block_lt_of_cell? w _ hw1027_0)).trans hw1027_0), ((HB.out.cell (World.block_lt_of_cell? w _ hw1027_1)).trans hw1027_1), ((HB.out.cell (World.block_lt_of_cell? w _ hw1028_0)).trans hw1028_0), ((HB.out.cell (World.block_lt_of_cell? w _ hw1028_1)).trans hw1028_1)⟩ (fun hHeld => ?_); clear hK K; refine norm_ (a' := ?_) ?_ ?_
        rotate_left
        ·show Act.put _ (some 25) _ = _
         simp only [Act.put, List.setIfInBounds_toArray, List.set_cons_zero, List.set_cons_succ, i64_w, i32_w]
         rfl
        refine pure_ (i := 9) (N := some 26) (v := ?_) (a' := ?_) #[t_, t_, t_, t_, t_, t_, t_, t_, t_, t_] rfl rfl (any_of HT_.out (by kernel_rfl)) (fun _ _ _ h => h) (Or.inl ⟨by rfl, ?_⟩) ?_ ?_
        rotate_left
        ·intro w'; go_simp
         with_reducible rfl
        rotate_left
        ·simp only [Act.put, List.setIfInBounds_toArray, List.set_cons_zero, List.set_cons_succ, i64_w, i32_w]
         rfl
        refine done_ (done_of HT_.out (by kernel_rfl)) ?_; (try go_wp2); go_roundg k1
        case measure => have := HK1.out; omega
        case rel => exact ⟨(wrap64 (x5_1 + 1)), (by first | rfl | (simp; done) | (simp [*]; done)), H', ⟨by have := HK1.out; omega⟩, ⟨by repeat (first | (with_reducible first | exact HB.out | apply below_alloc | apply pw_below_drewN | apply below_drew1) | exact HB.out)⟩⟩
       ·replace c8 := Bool.eq_false_iff.mpr c8; subst c8; (have H1 : (some false) = some r := by rw [if_neg (show ¬ (false = true) by decide)] at H; exact H); clear H; have H := H1; clear H1; obtain rfl := Option.some.inj H; (try go_wp2); have n0_ := Aside0.mk (below_drew1 HB.out); clear HB; have HB := n0_; clear n0_; have p1027 : 0 ≤ (x5_1 : Int) := of_decide_eq_true (by assumption); have q1027 : x5_1 < (l0.length : Int) := of_decide_eq_true (by assumption); obtain ⟨ad1027, A1027_1, c1027_1, e1027, hx1027_0, hx1027_1, hl1027_1, hi1027_1⟩ := at_T53 HR0.out x5_1 p1027 q1027; have hw1027_1 := hx1027_1; have hw1027_0 := hx1027_0; cases e1027; replace hx1027_0 := (HB.out.cell (World.block_lt_of_cell? w _ hx1027_0)).trans hx1027_0; replace hx1027_1 := (HB.out.cell (World.block_lt_of_cell? w _ hx1027_1)).trans hx1027_1; have HR1027_1 := Aside0.mk hi1027_1; have HC1027_1 := Aside0.mk hl1027_1; clear hi1027_1 hl1027_1; replace p1027 := eq_true p1027; replace q1027 := eq_true q1027; have p1028 : 0 ≤ (x5_1 : Int) := of_decide_eq_true (by assumption); have q1028 : x5_1 < (l1.length : Int) := of_decide_eq_true (by assumption); obtain ⟨ad1028, A1028_1, c1028_1, e1028, hx1028_0, hx1028_1, hl1028_1, hi1028_1⟩ := at_T53 HR1.out x5_1 p1028 q1028; have hw1028_1 := hx1028_1; have hw1028_0 := hx1028_0; cases e1028; replace hx1028_0 := (HB.out.cell (World.block_lt_of_cell? w _ hx1028_0)).trans hx1028_0; replace hx1028_1 := (HB.out.cell (World.block_lt_of_cell? w _ hx1028_1)).trans hx1028_1; have HR1028_1 := Aside0.mk hi1028_1; have HC1028_1 := Aside0.mk hl1028_1; clear hi1028_1 hl1028_1; replace p1028 := eq_true p1028; replace q1028 := eq_true q1028; refine start_ (n := 10) (S := fun w' => w'.cell? (ad1027.add ((x5_1).toNat * 2)) = some (.int .i64 ((rd_T53 l0 x5_1).f0)) ∧ w'.cell? ⟨(ad1027.add ((x5_1).toNat * 2)).block, (ad1027.add ((x5_1).toNat * 2)).off + 1, none⟩ = some (.slice A1027_1 ((rd_T53 l0 x5_1).f1).length c1027_1) ∧ w'.cell? (ad1028.add ((x5_1).toNat * 2)) = some (.int .i64 ((rd_T53 l1 x5_1).f0)) ∧ w'.cell? ⟨(ad1028.add ((x5_1).toNat * 2)).block, (ad1028.add ((x5_1).toNat * 2)).off + 1, none⟩ = some (.slice A1028_1 ((rd_T53 l1 x5_1).f1).length c1028_1)) (ds := []) #[f_, f_, f_, f_, f_, f_, f_, f_, f_, f_] (by kernel_rfl) rfl rfl ⟨((HB.out.cell (World.block_lt_of_cell? w _ hw1027_0)).trans hw1027_0), ((HB.out.cell (World.block_lt_of_cell? w _ hw1027_1)).trans hw1027_1), ((HB.out.cell (World.block_lt_of_cell? w _ hw1028_0)).trans hw1028_0), ((HB.out.cell (World.block_lt_of_cell? w _ hw1028_1)).trans hw1028_1)⟩ (fun hHeld => ?_); refine with_tabW laws_eqPackedS.tab6 laws_eqPackedS.bits6 (fun HT_ HW_ => ?_); generalize wr.drew = w11 at HB HR1027_1 HR1028_1 hx1027_0 hx1027_1 hx1028_0 hx1028_1 hHeld ⊢; refine pure_ (i := 0) (N := some 17) (v := ?_) (a' := ?_) #[t_, f_, f_, f_, f_, f_, f_, f_, f_, f_] rfl rfl (any_of HT_.out (by kernel_rfl)) (fun _ _ _ h => h) (Or.inl ⟨by rfl, ?_⟩) ?_ ?_
        rotate_left
        ·intro w'; go_simp
         with_reducible rfl
        rotate_left
        ·simp only [Act.put, List.setIfInBounds_toArray, List.set_cons_zero, List.set_cons_succ, i64_w, i32_w]
         rfl
        refine pure_ (i := 1) (N := some 18) (v := ?_) (a' := ?_) #[t_, t_, f_, f_, f_, f_, f_, f_, f_, f_] rfl rfl (any_of HT_.out (by kernel_rfl)) (fun _ _ _ h => h) (Or.inl ⟨by rfl, ?_⟩) ?_ ?_
        rotate_left
        ·intro w'; go_simp
         with_reducible rfl
        rotate_left
        ·simp only [Act.put, List.setIfInBounds_toArray, List.set_cons_zero, List.set_cons_succ, i64_w, i32_w]
         rfl
        refine pure_ (i := 2) (N := some 19) (v := ?_) (a' := ?_) #[t_, t_, t_, f_, f_, f_, f_, f_, f_, f_] rfl rfl (any_of HT_.out (by kernel_rfl)) (fun _ _ _ h => h) (Or.inl ⟨by rfl, ?_⟩) ?_ ?_
        rotate_left
        ·intro w'; go_simp
         with_reducible rfl
        rotate_left
        ·simp only [Act.put, List.setIfInBounds_toArray, List.set_cons_zero, List.set_cons_succ, i64_w, i32_w]
         rfl
        refine pure_ (i := 4) (N := some 21) (v := ?_) (a' := ?_) #[t_, t_, t_, f_, t_, f_, f_, f_, f_, f_] rfl rfl (any_of HT_.out (by kernel_rfl)) (fun _ _ _ h => h) (Or.inl ⟨by rfl, ?_⟩) ?_ ?_
        rotate_left
        ·intro w'; go_simp
         with_reducible rfl
        rotate_left
        ·simp only [Act.put, List.setIfInBounds_toArray, List.set_cons_zero, List.set_cons_succ, i64_w, i32_w]
         rfl
        refine pure_ (i := 5) (N := some 22) (v := ?_) (a' := ?_) #[t_, t_, t_, f_, t_, t_, f_, f_, f_, f_] rfl rfl (any_of HT_.out (by kernel_rfl)) (fun _ _ _ h => h) (Or.inl ⟨by rfl, ?_⟩) ?_ ?_
        rotate_left
        ·intro w'; go_simp
         with_reducible rfl
        rotate_left
        ·simp only [Act.put, List.setIfInBounds_toArray, List.set_cons_zero, List.set_cons_succ, i64_w, i32_w]
         rfl
        refine pure_ (i := 6) (N := some 23) (v := ?_) (a' := ?_) #[t_, t_, t_, f_, t_, t_, t_, f_, f_, f_] rfl rfl (any_of HT_.out (by kernel_rfl)) (fun _ _ _ h => h) (Or.inl ⟨by rfl, ?_⟩) ?_ ?_
        rotate_left
        ·intro w'; go_simp
         with_reducible rfl
        rotate_left
        ·simp only [Act.put, List.setIfInBounds_toArray, List.set_cons_zero, List.set_cons_succ, i64_w, i32_w]
         rfl
        refine take_ (i := 3) (N := some 20) (v := ?_) (a' := ?_) #[t_, t_, t_, t_, t_, t_, t_, f_, f_, f_] rfl rfl (take_ofW HT_.out HW_.out (by kernel_rfl)) (fun _ _ _ h => h) (Or.inl ⟨by rfl, ?_⟩) hHeld ?_ ?_
        rotate_left
        ·rintro w' ⟨s0, s1, s2, s3⟩; go_simp
         with_reducible rfl
        rotate_left
        ·simp only [Act.put, List.setIfInBounds_toArray, List.set_cons_zero, List.set_cons_succ, i64_w, i32_w]
         rfl
        refine take_ (i := 7) (N := some 24) (v := ?_) (a' := ?_) #[t_, t_, t_, t_, t_, t_, t_, t_, f_, f_] rfl rfl (take_ofW HT_.out HW_.out (by kernel_rfl)) (fun _ _ _ h => h) (Or.inl ⟨by rfl, ?_⟩) hHeld ?_ ?_
        rotate_left
        ·rintro w' ⟨s0, s1, s2, s3⟩; go_simp
         with_reducible rfl
        rotate_left
        ·simp only [Act.put, List.setIfInBounds_toArray, List.set_cons_zero, List.set_cons_succ, i64_w, i32_w]
         rfl
        refine one_ (i := 8) (N := some 25) #[t_, t_, t_, t_, t_, t_, t_, t_, t_, f_] rfl rfl (one_of HT_.out (by kernel_rfl)) (by decide) (fun K hK => ?_); refine goes_ Try.func99 (by kernel_rfl) rfl #[.agg #[.int .i64 ((rd_T53 l0 x5_1).f0), .slice A1027_1 ((rd_T53 l0 x5_1).f1).length c1027_1], .agg #[.int .i64 ((rd_T53 l1 x5_1).f0), .slice A1028_1 ((rd_T53 l1 x5_1).f1).length c1028_1]] (by rfl) rfl rfl (by (try simp only [List.map_toArray, List.map_cons, List.map_nil]); first | done | rfl | (simp only [List.length_drop, List.length_take]; rfl)) ?_
        with_reducible refine (laws_eqPacked.calls k1 ((rd_T53 l0 x5_1).f0) _ _ ((rd_T53 l0 x5_1).f1) ((rd_T53 l1 x5_1).f0) _ _ ((rd_T53 l1 x5_1).f1) false _ ?side1 ?side2 ?side3 ?side4 A7.out).mono ?_
        (case side1 => repeat (first | exact (Kd.C_below HR1027_1.out HB.out) | (with_reducible refine Kd.C_alloc ?_ _) | (with_reducible refine Kd.C_drewN ?_ _) | (with_reducible refine Kd.C_drew ?_)))
        (case side2 => exact HC1027_1.out)
        (case side3 => repeat (first | exact (Kd.C_below HR1028_1.out HB.out) | (with_reducible refine Kd.C_alloc ?_ _) | (with_reducible refine Kd.C_drewN ?_ _) | (with_reducible refine Kd.C_drew ?_)))
        (case side4 => exact HC1028_1.out)
        rintro e w12 ⟨rfl, hb⟩; refine ⟨_, rfl, ?_⟩; have n0_ := Aside0.mk (below_step (by repeat (first | (with_reducible first | exact HB.out | apply below_alloc | apply pw_below_drewN | apply below_drew1) | exact HB.out)) hb); clear HB; have HB := n0_; clear n0_
        (try clear hb)
        (try clear hb2)
        (try clear hk)
        (try clear hi)
        refine hK.out _ _ ⟨((HB.out.cell (World.block_lt_of_cell? w _ hw1027_0)).trans hw1027_0), ((HB.out.cell (World.block_lt_of_cell? w _ hw1027_1)).trans hw1027_1), ((HB.out.cell (World.block_lt_of_cell? w _ hw1028_0)).trans hw1028_0), ((HB.out.cell (World.block_lt_of_cell? w _ hw1028_1)).trans hw1028_1)⟩ (fun hHeld => ?_); clear hK K; refine norm_ (a' := ?_) ?_ ?_
        rotate_left
        ·show Act.put _ (some 25) _ = _
         simp only [Act.put, List.setIfInBounds_toArray, List.set_cons_zero, List.set_cons_succ, i64_w, i32_w]
         rfl
        refine pure_ (i := 9) (N := some 26) (v := ?_) (a' := ?_) #[t_, t_, t_, t_, t_, t_, t_, t_, t_, t_] rfl rfl (any_of HT_.out (by kernel_rfl)) (fun _ _ _ h => h) (Or.inl ⟨by rfl, ?_⟩) ?_ ?_
        rotate_left
        ·intro w'; go_simp
         with_reducible rfl
        rotate_left
        ·simp only [Act.put, List.setIfInBounds_toArray, List.set_cons_zero, List.set_cons_succ, i64_w, i32_w]
         rfl
        refine done_ (done_of HT_.out (by kernel_rfl)) ?_; (try go_wp2); go_ret; exact ⟨by first | rfl | (simp <;> rfl) | (simp [*] <;> rfl), by repeat (first | (with_reducible first | exact HB.out | apply below_alloc | apply pw_below_drewN | apply below_drew1) | exact HB.out)⟩
      ·rw [if_neg c6] at H; exact absurd H (by simp)
     ·rw [if_neg c5] at H; exact absurd H (by simp)
    ·rw [if_neg c4] at H; have c4b0 : decide (x5_1 < (l0.length : Int)) = false := decide_eq_false c4; clear c4; obtain rfl := Option.some.inj H; go_wp2; go_ret; exact ⟨by first | rfl | (simp <;> rfl) | (simp [*] <;> rfl), by repeat (first | (with_reducible first | exact HB.out | apply below_alloc | apply pw_below_drewN | apply below_drew1) | exact HB.out)⟩
 ·rw [if_neg c3] at H; have c3b0 : ((l0.length : Int) == (l1.length : Int)) = false := beq_eq_false_iff_ne.mpr c3; have c3b1 : ((l0.length : Int) != (l1.length : Int)) = true := bne_iff_ne.mpr c3; (have c3b2 : (l0.length == l1.length) = false := by first | simpa using c3 | (simp at c3 ⊢; omega)); obtain rfl := Option.some.inj H; go_enter Try.func55, Try.ntmps55; go_wp2; go_ret; exact ⟨by first | rfl | (simp <;> rfl) | (simp [*] <;> rfl), by repeat (first | (with_reducible first | exact HB.out | apply below_alloc | apply pw_below_drewN | apply below_drew1) | exact HB.out)⟩
end Go.Proofs.Ytfnhjaiioojbkaa.Q
end
section
namespace Go.Proofs.Ytfnhjaiioojbkaa.Q
open Go.RowKit Go.Proofs.YtfnhjaiioojbkaaW.PrintWords
set_option linter.unusedVariables false
set_option linter.unusedSimpArgs false
/-- A code: not long, of bytes. -/
def Code (b : List Int) : Prop := b.length ≤ 2000 ∧ ∀ x ∈ b, 0 ≤ x ∧ x ≤ 255
theorem Code.rd {b : List Int} (h : Code b) (i : Int) : 0 ≤ rd b i ∧ rd b i ≤ 255 := by
  show 0 ≤ b.getD i.toNat 0 ∧ b.getD i.toNat 0 ≤ 255
  rw [List.getD_eq_getElem?_getD]
  by_cases hi : i.toNat < b.length
  · simp [hi]
    exact h.2 _ (List.getElem_mem hi)
  · simp [hi]
/-- A place in a code that is far from the end of the numbers. -/
def Pl (p : Int) : Prop := 0 ≤ p ∧ p ≤ 1000000000
theorem Pl.add {p : Int} (h : 0 ≤ p ∧ p ≤ 1000000) {c : Int} (h0 : 0 ≤ c) (h1 : c ≤ 1000000) : Pl (p + c) := ⟨by omega, by omega⟩
end Go.Proofs.Ytfnhjaiioojbkaa.Q
end
section
namespace Go.Proofs.Ytfnhjaiioojbkaa.Q
open Go.RowKit Go.Proofs.YtfnhjaiioojbkaaW.PrintWords Go.Proofs.YtfnhjaiioojbkaaW.PrintLast Go.Proofs.YtfnhjaiioojbkaaW.PrintMore
attribute [local go_sem] max2_int min2_int max_two min_two max_three min_three max_four min_four   -- for this text's walks alone
set_option linter.unusedVariables false
set_option linter.unusedSimpArgs false
def impl_deltaSize.l0 : Nat → Int → List (S39) → Int → Int → Option (Int)
 | 0, _, _, _, _ => none
 | k + 1, x3, x8, x9, x10 => if x10 < x9 then (if 0 ≤ x10 then (if x10 < (x8.length : Int) then (impl_deltaSize.l0 k (wrap64 (x3 + (((rd_T39 x8 x10).f2).length : Int))) x8 x9 (wrap64 (x10 + 1))) else (none)) else (none)) else (some x3)
def impl_deltaSize.f (k : Nat) (l0 : List (S39)) : Option (Int) := impl_deltaSize.l0 k (l0.length : Int) l0 (l0.length : Int) 0
set_option maxHeartbeats 8000000 in
set_option maxRecDepth 100000 in
theorem impl_deltaSize.calls (k : Nat) (A0 : Option Addr) (c0 : Nat) (l0 : List (S39)) (r : Int) (w : World) (hr0 : Kd.C k39 w A0 l0.length l0) (hc0 : l0.length ≤ c0) (h : impl_deltaSize.f k l0 = some r) :
 Calls Try.prog 89 #[.slice A0 l0.length c0] w fun e w' => e = .returned (.int .i64 r) ∧ Below w.heap.size w w' := by
 have hu39 := Try.underlying39; have HR0 := Aside0.mk hr0; have HC0 := Aside0.mk hc0; clear hr0 hc0; have HB := Aside0.mk (Below.refl w.heap.size w); have H : (impl_deltaSize.l0 k (l0.length : Int) l0 (l0.length : Int) 0) = some r := h; clear h; have H' := Aside0.mk H; clear H; go_enter Try.func89, Try.ntmps89; go_wp2; go_loopg [3, 10] k (fun kq v3 v10 w' => ∃ (x3_1 : Int) (x10_1 : Int), v3 = .int .i64 x3_1 ∧ v10 = .int .i64 x10_1 ∧ Aside0 (impl_deltaSize.l0 kq x3_1 l0 (l0.length : Int) x10_1 = some r) ∧ Aside0 (kq ≤ k) ∧ Aside0 (Below w.heap.size w w'))
 case atStart => exact ⟨((l0.length : Int)), (0), (by first | rfl | (simp; done) | (simp [*]; done)), (by first | rfl | (simp; done) | (simp [*]; done)), H', ⟨Nat.le_refl _⟩, ⟨by repeat (first | (with_reducible first | exact HB.out | apply below_alloc | apply pw_below_drewN | apply below_drew1) | exact HB.out)⟩⟩
 case round =>
  clear H'; obtain ⟨x3_1, x10_1, rfl, rfl, HA, HK1, HB⟩ := hrel
  cases gk with
  | zero => exact absurd HA.out (by simp [impl_deltaSize.l0])
  | succ k1 =>
   have H := HA.out; clear HA; simp only [impl_deltaSize.l0] at H; by_cases c2 : x10_1 < (l0.length : Int)
   ·rw [if_pos c2] at H; have c2b0 : decide (x10_1 < (l0.length : Int)) = true := decide_eq_true c2; clear c2; by_cases c3 : 0 ≤ x10_1
    ·rw [if_pos c3] at H; have c3b0 : decide (0 ≤ x10_1) = true := decide_eq_true c3; clear c3; by_cases c4 : x10_1 < (l0.length : Int)
     ·rw [if_pos c4] at H; have c4b0 : decide (x10_1 < (l0.length : Int)) = true := decide_eq_true c4; clear c4; have H' := Aside0.mk H; clear H; have p889 : 0 ≤ (x10_1 : Int) := of_decide_eq_true (by assumption); have q889 : x10_1 < (l0.length : Int) := of_decide_eq_true (by assumption); obtain ⟨ad889, A889_2, c889_2, e889, hx889_0, hx889_1, hx889_2, hl889_2, hi889_2⟩ := at_T39 HR0.out x10_1 p889 q889; cases e889; replace hx889_0 := (HB.out.cell (World.block_lt_of_cell? w _ hx889_0)).trans hx889_0; replace hx889_1 := (HB.out.cell (World.block_lt_of_cell? w _ hx889_1)).trans hx889_1; replace hx889_2 := (HB.out.cell (World.block_lt_of_cell? w _ hx889_2)).trans hx889_2; have HR889_2 := Aside0.mk hi889_2; have HC889_2 := Aside0.mk hl889_2; clear hi889_2 hl889_2; replace p889 := eq_true p889; replace q889 := eq_true q889; go_wp2_with (first | ((with_reducible refine gate_dst (N := 5) rfl ?_); refine box_event ?hg (N := 5) ?hd (cs := #[.int .i64 0, .int .i64 0, .slice none 0 0]) (t := 39) ?hr ?_; (case hd => rfl); (case hg => rfl); (case hr => first | (go_simp; done) | (go_simp; rfl)); intro gb890 hg w5 hbox hb; have n0_ := Aside0.mk (below_step (by repeat (first | (with_reducible first | exact HB.out | apply below_alloc | apply pw_below_drewN | apply below_drew1) | exact HB.out)) hb); have n1_ := Aside0.mk (hbox); have n2_ := Aside0.mk ((by rw [hg]; exact (below_size (by repeat (first | (with_reducible first | exact HB.out | apply below_alloc | apply pw_below_drewN | apply below_drew1) | exact HB.out))) : w.heap.size ≤ gb890)); have n3_ := Aside0.mk ((by rw [hg]; exact (below_size (by repeat (first | (with_reducible first | exact HB.out | apply below_alloc | apply pw_below_drewN | apply below_drew1) | exact HB.out))) : w.heap.size ≤ gb890)); clear HB; have HB := n0_; have BK890 := n1_; have GW890 := n2_; have GE890 := n3_; clear n0_ n1_ n2_ n3_; clear hb hbox hg; have hcz6_0 : w5.cell? ⟨gb890, 0, none⟩ = some (.int .i64 0) := (blk_cell BK890.out 0).trans rfl; have hcz6_1 : w5.cell? ⟨gb890, 1, none⟩ = some (.int .i64 0) := (blk_cell BK890.out 1).trans rfl; have hcz6_2 : w5.cell? ⟨gb890, 2, none⟩ = some (.slice none 0 0) := (blk_cell BK890.out 2).trans rfl; have hfz6_0 := blk_frozen BK890.out 0; have hfz6_1 := blk_frozen BK890.out 1; have hfz6_2 := blk_frozen BK890.out 2)); go_roundg k1
      case measure => have := HK1.out; omega
      case rel => exact ⟨(wrap64 (x3_1 + (((rd_T39 l0 x10_1).f2).length : Int))), (wrap64 (x10_1 + 1)), (by first | rfl | (simp; done) | (simp [*]; done)), (by first | rfl | (simp; done) | (simp [*]; done)), H', ⟨by have := HK1.out; omega⟩, ⟨by repeat (first | (with_reducible first | exact HB.out | apply below_alloc | apply pw_below_drewN | apply below_drew1 | refine below_set ?_ GE890.out) | exact HB.out)⟩⟩
     ·rw [if_neg c4] at H; exact absurd H (by simp)
    ·rw [if_neg c3] at H; exact absurd H (by simp)
   ·rw [if_neg c2] at H; have c2b0 : decide (x10_1 < (l0.length : Int)) = false := decide_eq_false c2; clear c2; obtain rfl := Option.some.inj H; go_wp2; go_ret; exact ⟨by first | rfl | (simp <;> rfl) | (simp [*] <;> rfl), by repeat (first | (with_reducible first | exact HB.out | apply below_alloc | apply pw_below_drewN | apply below_drew1) | exact HB.out)⟩
end Go.Proofs.Ytfnhjaiioojbkaa.Q
end
section
namespace Go.Proofs.Ytfnhjaiioojbkaa.Q
open Go.RowKit Go.Proofs.YtfnhjaiioojbkaaW.PrintWords Go.Proofs.YtfnhjaiioojbkaaW.PrintLast Go.Proofs.YtfnhjaiioojbkaaW.PrintMore
attribute [local go_sem] max2_int min2_int max_two min_two max_three min_three max_four min_four   -- for this text's walks alone
set_option linter.unusedVariables false
set_option linter.unusedSimpArgs false
def impl_PackOf_1.f (k : Nat) (l0 : List ByteArray) : Option (Bool) := (impl_TextOk.f k l0).bind fun t936 => (some (!t936))
set_option maxHeartbeats 8000000 in
set_option maxRecDepth 100000 in
theorem impl_PackOf_1.calls (k : Nat) (A0 : Option Addr) (c0 : Nat) (l0 : List ByteArray) (r : Bool) (w : World) (hr0 : Kd.C Kd.string w A0 l0.length l0) (hc0 : l0.length ≤ c0) (h : impl_PackOf_1.f k l0 = some r) :
 Calls Try.prog 93 #[.slice A0 l0.length c0] w fun e w' => e = .returned (.bool r) ∧ Drawn0 w w' := by
 have HR0 := Aside0.mk hr0; have HC0 := Aside0.mk hc0; clear hr0 hc0; have H : ((impl_TextOk.f k l0).bind fun t936 => (some (!t936))) = some r := h; clear h; replace H := Option.bind_eq_some_iff.mp H; obtain ⟨t936, A20, H⟩ := H; replace H : (some (!t936)) = some r := H; have A2 := Aside0.mk A20; clear A20; obtain rfl := Option.some.inj H; go_enter Try.func93, Try.ntmps93; go_wp2_with (first | ((with_reducible refine gate_callee (f := 24) rfl ?_); refine goesL_ (some 4) rfl rfl Try.func24 (by kernel_rfl) rfl #[.slice A0 l0.length c0] rfl (by (try simp only [List.map_toArray, List.map_cons, List.map_nil]); first | done | rfl | (simp only [List.length_drop, List.length_take]; rfl)) ?_; (with_reducible refine (impl_TextOk.calls k _ _ l0 t936 _ ?side1 ?side2 A2.out).mono ?_); (case side1 => repeat (first | exact HR0.out | (with_reducible refine Kd.C_alloc ?_ _) | (with_reducible refine Kd.C_drewN ?_ _) | (with_reducible refine Kd.C_drew ?_))); (case side2 => exact HC0.out); rintro e w' ⟨rfl, ⟨nd, rfl⟩⟩; refine ⟨_, rfl, ?_⟩)); go_ret; exact ⟨by first | rfl | (simp; done) | (simp [*]; done), by repeat (first | exact Drawn0.refl _ | apply Drawn0.step)⟩
end Go.Proofs.Ytfnhjaiioojbkaa.Q
end
section
namespace Go.Proofs.Ytfnhjaiioojbkaa.Q
open Go.RowKit Go.Proofs.YtfnhjaiioojbkaaW.PrintWords Go.Proofs.YtfnhjaiioojbkaaW.PrintLast Go.Proofs.YtfnhjaiioojbkaaW.PrintMore
attribute [local go_sem] max2_int min2_int max_two min_two max_three min_three max_four min_four   -- for this text's walks alone
set_option linter.unusedVariables false
set_option linter.unusedSimpArgs false
set_option maxHeartbeats 2000000 in
theorem idxFunc_strs {d : Kd (List ByteArray)} (hd : ∀ W A n xs i, Kd.C d W A n xs → 0 ≤ i → i < (n : Int) → ∃ ad A0 c0, A = some ad ∧ W.cell? (ad.add i.toNat) = some (.slice A0 (rd_L2 xs i).length c0) ∧ (rd_L2 xs i).length ≤ c0 ∧ Kd.string.C W A0 (rd_L2 xs i).length (rd_L2 xs i)) (g : Nat) (lb : Array Value) (eg : ∀ args w, (callFunc g args).run Try.prog w = .ok (.enter g args) w) (Rel : World → World → Prop) (f : List ByteArray → Option Bool) (A : Option Addr) (c : Nat) (l : List (List ByteArray)) (r : Int) (w : World) (hl : l.length ≤ 9223372036854775807)
 (h0 : Rel w w) (hr : ∀ W, Rel w W → Kd.C d W A l.length l)
 (hp : ∀ W x A0 c0 b, Rel w W → x.length ≤ c0 → Kd.C Kd.string W A0 x.length x → f x = some b → Calls Try.prog g (#[.slice A0 x.length c0] ++ lb) W fun e w' => e = .returned (.bool b) ∧ Rel w w')
 (h : idxF f 0 l = some r) :
 Calls Try.prog 110 #[.slice A l.length c, .func (.func g) #[] lb] w fun e w' => e = .returned (.int .i64 r) ∧ Rel w w' := by
 have HP := Aside0.mk hp; have HR := Aside0.mk hr; have H0 := Aside0.mk h0; have HH := Aside0.mk h; have HD := Aside0.mk hd; clear hp hr h0 h hd; go_enter Try.func110, Try.ntmps110; go_wp2; go_loopg [5, 8] l.length (fun gg _ s8 wr => ∃ kk : Nat, kk ≤ l.length ∧ l.length - kk ≤ gg ∧ s8 = .int .i64 kk ∧ Aside0 (Rel w wr) ∧ Aside0 (idxF f kk (l.drop kk) = some r))
 case atStart => exact ⟨0, Nat.zero_le _, by omega, rfl, H0, ⟨by simpa using HH.out⟩⟩
 case round =>
  obtain ⟨kk, hkk, hg, rfl, BW, HA⟩ := hrel; by_cases hlt : kk < l.length
  ·(have hltz : (kk : Int) < (l.length : Int) := by omega); obtain ⟨ad, A0, c0, ea, hcell, hc0, hC⟩ := HD.out _ _ _ _ (kk : Int) (HR.out wr BW.out) (by omega) hltz; cases ea; have HA2 := HA.out; rw [idxF_drop f l kk hlt] at HA2; obtain ⟨b, hb, HA3⟩ := Option.bind_eq_some_iff.mp HA2; (have hx : rd_L2 l (kk : Int) = l[kk]'hlt := by simp [rd_L2, List.getD_eq_getElem?_getD, hlt]); rw [← hx] at hb; have hcall := HP.out wr _ A0 c0 b BW.out hc0 hC hb; have HX := Aside0.mk HA3; simp only [Int.toNat_natCast] at hcell; clear HA2 HA3 hx hb hc0 hC
   cases b with
   | true =>
    go_wp2_with (go_at_fn g; refine hcall.mono ?_; rintro e w' ⟨rfl, hb'⟩); go_ret; obtain rfl := Option.some.inj HX.out
    exact ⟨rfl, hb'⟩
   | false =>
    go_wp2_with (go_at_fn g; refine hcall.mono ?_; rintro e w' ⟨rfl, hb'⟩); go_roundg (l.length - (kk + 1))
    case measure => omega
    case rel => exact ⟨kk + 1, by omega, by omega, by go_num, ⟨hb'⟩, HX⟩
  ·(have hltz : ¬ (kk : Int) < (l.length : Int) := by omega); (have : kk = l.length := by omega); subst this; go_wp2; go_ret; have := HA.out
   simp [idxF] at this
   subst this; exact ⟨rfl, BW.out⟩
end Go.Proofs.Ytfnhjaiioojbkaa.Q
end
section
namespace Go.Proofs.Ytfnhjaiioojbkaa.Q
open Go.RowKit Go.Proofs.YtfnhjaiioojbkaaW.PrintWords Go.Proofs.YtfnhjaiioojbkaaW.PrintLast Go.Proofs.YtfnhjaiioojbkaaW.PrintMore
attribute [local go_sem] max2_int min2_int max_two min_two max_three min_three max_four min_four   -- for this text's walks alone
set_option linter.unusedVariables false
set_option linter.unusedSimpArgs false
set_option maxHeartbeats 2000000 in
theorem containsFunc_strs {d : Kd (List ByteArray)} (hd : ∀ W A n xs i, Kd.C d W A n xs → 0 ≤ i → i < (n : Int) → ∃ ad A0 c0, A = some ad ∧ W.cell? (ad.add i.toNat) = some (.slice A0 (rd_L2 xs i).length c0) ∧ (rd_L2 xs i).length ≤ c0 ∧ Kd.string.C W A0 (rd_L2 xs i).length (rd_L2 xs i)) (g : Nat) (lb : Array Value) (eg : ∀ args w, (callFunc g args).run Try.prog w = .ok (.enter g args) w) (Rel : World → World → Prop) (f : List ByteArray → Option Bool) (A : Option Addr) (c : Nat) (l : List (List ByteArray)) (r : Bool) (w : World) (hl : l.length ≤ 9223372036854775807)
 (h0 : Rel w w) (hr : ∀ W, Rel w W → Kd.C d W A l.length l)
 (hp : ∀ W x A0 c0 b, Rel w W → x.length ≤ c0 → Kd.C Kd.string W A0 x.length x → f x = some b → Calls Try.prog g (#[.slice A0 x.length c0] ++ lb) W fun e w' => e = .returned (.bool b) ∧ Rel w w')
 (h : anyF f l = some r) :
 Calls Try.prog 92 #[.slice A l.length c, .func (.func g) #[] lb] w fun e w' => e = .returned (.bool r) ∧ Rel w w' := by
 obtain ⟨q, hq, hb⟩ := idxF_of_anyF f l 0 r h; have HC := Aside0.mk (idxFunc_strs hd g lb eg Rel f A c l q w hl h0 hr hp hq); have HQ := Aside0.mk hb; clear hr hp h hq h0 eg hb; go_enter Try.func92, Try.ntmps92; go_wp2_with (go_at_call 110; refine HC.out.mono ?_; rintro e w' ⟨rfl, hb'⟩); go_ret; exact ⟨by rw [← HQ.out]; rfl, hb'⟩
end Go.Proofs.Ytfnhjaiioojbkaa.Q
end
section
namespace Go.Proofs.Ytfnhjaiioojbkaa.Q
open Go.RowKit Go.Proofs.YtfnhjaiioojbkaaW.PrintWords Go.Proofs.YtfnhjaiioojbkaaW.PrintLast Go.Proofs.YtfnhjaiioojbkaaW.PrintMore
attribute [local go_sem] max2_int min2_int max_two min_two max_three min_three max_four min_four   -- for this text's walks alone
set_option linter.unusedVariables false
set_option linter.unusedSimpArgs false
def impl_PackOf_any.f (k : Nat) (l0 : List (List ByteArray)) : Option Bool := anyF (impl_PackOf_1.f k) l0
theorem impl_PackOf_any.calls (k : Nat) (A0 : Option Addr) (c0 : Nat) (l0 : List (List ByteArray)) (r : Bool) (w : World) (hr0 : Kd.C (Kd.slice 9 Kd.string) w A0 l0.length l0) (hc0 : l0.length ≤ c0) (h : impl_PackOf_any.f k l0 = some r) :
 Calls Try.prog 92 #[.slice A0 l0.length c0, .func (.func 93) #[] #[]] w fun e w' => e = .returned (.bool r) ∧ Drawn0 w w' :=
 containsFunc_strs (d := Kd.slice 9 Kd.string) (fun W A n xs i hC h0 h1 => at_L2 hC i h0 h1) 93 #[] (enters_of Try.func93 (by kernel_rfl) rfl) Drawn0 (impl_PackOf_1.f k) A0 c0 l0 r w hr0.2.1 (Drawn0.refl _)
  (fun W hW => Kd.C_below hr0 hW.below)
  (fun W x A0 c0 b hW hc hC hx => (impl_PackOf_1.calls k A0 c0 x b W hC hc hx).mono fun e w' ⟨he, hd⟩ => ⟨he, by obtain ⟨n, rfl⟩ := hd; exact hW.step n⟩) h
end Go.Proofs.Ytfnhjaiioojbkaa.Q
end
section
namespace Go.Proofs.Ytfnhjaiioojbkaa.Q
open Go.RowKit Go.Proofs.YtfnhjaiioojbkaaW.PrintWords Go.Proofs.YtfnhjaiioojbkaaW.PrintLast Go.Proofs.YtfnhjaiioojbkaaW.PrintMore
attribute [local go_sem] max2_int min2_int max_two min_two max_three min_three max_four min_four   -- for this text's walks alone
set_option linter.unusedVariables false
set_option linter.unusedSimpArgs false
mutual
def impl_PackOf.j0 : Nat → List (List ByteArray) → List (S53) → List Int → Bool → Option ((List (S53)))
 | 0, _, _, _, _ => none
 | k + 1, x0, x3, x4, x19 => if x19 = true then (some x3) else (impl_PackOf.l0 k x0 x3 x4 x0 (x0.length : Int) 0)
def impl_PackOf.l0 : Nat → List (List ByteArray) → List (S53) → List Int → List (List ByteArray) → Int → Int → Option ((List (S53)))
 | 0, _, _, _, _, _, _ => none
 | k + 1, x0, x3, x4, x21, x22, x23 => if x23 < x22 then (if 0 ≤ x23 then (if x23 < (x21.length : Int) then ((impl_deltaOf.f k ([] : List ByteArray) (rd_L2 x21 x23)).bind fun t945 => (impl_PackOf.l1 k x0 x3 x4 (rd_L2 x21 x23) 1 x21 x22 x23 x23 0 (-1) t945)) else (none)) else (none)) else (some x3)
def impl_PackOf.l1 : Nat → List (List ByteArray) → List (S53) → List Int → List ByteArray → Int → List (List ByteArray) → Int → Int → Int → Int → Int → List (S39) → Option ((List (S53)))
 | 0, _, _, _, _, _, _, _, _, _, _, _, _ => none
 | k + 1, x0, x3, x4, x6, x8, x21, x22, x23, x31, x32, x949000, x949001 => if x32 < x31 then (if 0 ≤ x32 then (if x32 < (x4.length : Int) then (if (rd x4 x32) ≥ 3 then (impl_PackOf.l1 k x0 x3 x4 x6 x8 x21 x22 x23 x31 (wrap64 (x32 + 1)) x949000 x949001) else (if x32 < (x0.length : Int) then ((impl_deltaOf.f k (rd_L2 x0 x32) x6).bind fun t957 => ((impl_deltaSize.f k t957).bind fun t960 => ((impl_deltaSize.f k x949001).bind fun t961 => (if t960 < t961 then (impl_PackOf.l1 k x0 x3 x4 x6 (wrap64 ((rd x4 x32) + 1)) x21 x22 x23 x31 (wrap64 (x32 + 1)) x32 t957) else (impl_PackOf.l1 k x0 x3 x4 x6 x8 x21 x22 x23 x31 (wrap64 (x32 + 1)) x949000 x949001))))) else (none))) else (none)) else (none)) else (if x3.length < 4398046511104 then (if x4.length < 17592186044416 then (impl_PackOf.l0 k x0 (x3 ++ [(⟨x949000, x949001⟩ : S53)]) (x4 ++ [x8]) x21 x22 (wrap64 (x23 + 1))) else (none)) else (none))
end
def impl_PackOf.f (k : Nat) (l0 : List (List ByteArray)) : Option ((List (S53))) := (some (([] : List (S53)) : List (S53))).bind fun y937 => ((some (([] : List Int) : List Int)).bind fun y940 => (if (l0.length : Int) > 12 then (impl_PackOf.j0 k l0 y937 y940 true) else ((impl_PackOf_any.f k l0).bind fun t943 => (impl_PackOf.j0 k l0 y937 y940 t943))))
def impl_PackOf.T14 : Bool × List (List Nat × List Nat) := (true, [([], []), ([], []), ([0, 1], [0, 1]), ([], []), ([], []), ([3, 4], [3, 4]), ([5], [5]), ([6], [6]), ([2, 0, 1, 2], [2]), ([7, 8, 0, 1, 2, 3, 4, 5, 6, 7, 8], [7])])
def impl_PackOf.B14 : List Nat := [0, 0, 3, 0, 0, 24, 56, 120, 7, 511]
theorem impl_PackOf.tab14 : rtab .any (opsOf Try.f47 14) = impl_PackOf.T14 := by kernel_rfl
theorem impl_PackOf.bits14 : waitsOk impl_PackOf.T14.2 impl_PackOf.B14 = true := by kernel_rfl
theorem impl_PackOf.split {α β : Type} {d : Kd α} {d' : Kd β} {e e' : Nat} {W w1 : World} {base : Nat} {ok : Nat → Prop} {u v : Value} {xs : List α} {ys : List β} (h : Kd.S d e W base ok u xs) (h2 : Kd.S d' e' w1 W.heap.size (fun k => W.heap.size ≤ k) v ys) (hb : Below W.heap.size W w1) :
 ∃ N : Nat, N ≤ w1.heap.size ∧ Kd.S d e w1 base (fun k => (k < N ∧ ok k) ∧ some k ≠ v.ownBlock) u xs ∧ Kd.S d' e' w1 W.heap.size (fun k => N ≤ k) v ys :=
 ⟨W.heap.size, below_size hb, Kd.S_elder' (Kd.S_mono (Kd.S_bound h) (fun _ hk => ⟨hk.2.2.1, hk.1⟩)) (Kd.S_base h2) hb, h2⟩
end Go.Proofs.Ytfnhjaiioojbkaa.Q
end
section
namespace Go.Proofs.Ytfnhjaiioojbkaa.Q
open Go.RowKit Go.Proofs.YtfnhjaiioojbkaaW.PrintWords Go.Proofs.YtfnhjaiioojbkaaW.PrintLast Go.Proofs.YtfnhjaiioojbkaaW.PrintMore
attribute [local go_sem] max2_int min2_int max_two min_two max_three min_three max_four min_four   -- for this text's walks alone
set_option linter.unusedVariables false
set_option linter.unusedSimpArgs false
def spec_l13Size.l0 : Nat → List (S39) → Int → Int → Option (Int)
 | 0, _, _, _ => none
 | k + 1, x0, x3, x4 => if x4 < (x0.length : Int) then (if 0 ≤ x4 then (spec_l13Size.l0 k x0 (wrap64 (x3 + (((rd_T39 x0 x4).f2).length : Int))) (wrap64 (x4 + 1))) else (none)) else (some x3)
def spec_l13Size.f (k : Nat) (l0 : List (S39)) : Option (Int) := spec_l13Size.l0 k l0 (l0.length : Int) 0
set_option maxHeartbeats 8000000 in
set_option maxRecDepth 100000 in
theorem spec_l13Size.calls (k : Nat) (A0 : Option Addr) (c0 : Nat) (l0 : List (S39)) (r : Int) (w : World) (hr0 : Kd.C k39 w A0 l0.length l0) (hc0 : l0.length ≤ c0) (h : spec_l13Size.f k l0 = some r) :
 Calls Try.prog 90 #[.slice A0 l0.length c0] w fun e w' => e = .returned (.int .i64 r) ∧ Drawn0 w w' := by
 have HR0 := Aside0.mk hr0; have HC0 := Aside0.mk hc0; clear hr0 hc0; have H : (spec_l13Size.l0 k l0 (l0.length : Int) 0) = some r := h; clear h; have H' := Aside0.mk H; clear H; go_enter Try.func90, Try.ntmps90; go_wp2; go_loopg [3, 4] k (fun kq v3 v4 w' => ∃ (x3_1 : Int) (x4_1 : Int), v3 = .int .i64 x3_1 ∧ v4 = .int .i64 x4_1 ∧ Aside0 (spec_l13Size.l0 kq l0 x3_1 x4_1 = some r) ∧ Aside0 (kq ≤ k) ∧ Drawn0 w w')
 case atStart => exact ⟨((l0.length : Int)), (0), (by first | rfl | (simp; done) | (simp [*]; done)), (by first | rfl | (simp; done) | (simp [*]; done)), H', ⟨Nat.le_refl _⟩, by repeat (first | exact Drawn0.refl _ | apply Drawn0.step)⟩
 case round =>
  clear H'; obtain ⟨x3_1, x4_1, rfl, rfl, HA, HK1, ⟨m1, rfl⟩⟩ := hrel
  cases gk with
  | zero => exact absurd HA.out (by simp [spec_l13Size.l0])
  | succ k1 =>
   have H := HA.out; clear HA; simp only [spec_l13Size.l0] at H; by_cases c2 : x4_1 < (l0.length : Int)
   ·rw [if_pos c2] at H; have c2b0 : decide (x4_1 < (l0.length : Int)) = true := decide_eq_true c2; clear c2; by_cases c3 : 0 ≤ x4_1
    ·rw [if_pos c3] at H; have c3b0 : decide (0 ≤ x4_1) = true := decide_eq_true c3; clear c3; have H' := Aside0.mk H; clear H; have p679 : 0 ≤ (x4_1 : Int) := of_decide_eq_true (by assumption); have q679 : x4_1 < (l0.length : Int) := of_decide_eq_true (by assumption); obtain ⟨ad679, A679_2, c679_2, e679, hx679_0, hx679_1, hx679_2, hl679_2, hi679_2⟩ := at_T39 HR0.out x4_1 p679 q679; cases e679; have HR679_2 := Aside0.mk hi679_2; have HC679_2 := Aside0.mk hl679_2; clear hi679_2 hl679_2; replace p679 := eq_true p679; replace q679 := eq_true q679; go_wp2; go_roundg k1
     case measure => have := HK1.out; omega
     case rel => exact ⟨(wrap64 (x3_1 + (((rd_T39 l0 x4_1).f2).length : Int))), (wrap64 (x4_1 + 1)), (by first | rfl | (simp; done) | (simp [*]; done)), (by first | rfl | (simp; done) | (simp [*]; done)), H', ⟨by have := HK1.out; omega⟩, by repeat (first | exact Drawn0.refl _ | apply Drawn0.step)⟩
    ·rw [if_neg c3] at H; exact absurd H (by simp)
   ·rw [if_neg c2] at H; have c2b0 : decide (x4_1 < (l0.length : Int)) = false := decide_eq_false c2; clear c2; obtain rfl := Option.some.inj H; go_wp2; go_ret; exact ⟨by first | rfl | (simp; done) | (simp [*]; done), by repeat (first | exact Drawn0.refl _ | apply Drawn0.step)⟩
end Go.Proofs.Ytfnhjaiioojbkaa.Q
end
section
namespace Go.Proofs.Ytfnhjaiioojbkaa.Q
open Go.RowKit Go.Proofs.YtfnhjaiioojbkaaW.PrintWords Go.Proofs.YtfnhjaiioojbkaaW.PrintLast Go.Proofs.YtfnhjaiioojbkaaW.PrintMore
attribute [local go_sem] max2_int min2_int max_two min_two max_three min_three max_four min_four   -- for this text's walks alone
set_option linter.unusedVariables false
set_option linter.unusedSimpArgs false
def spec_l13Deep.l0 : Nat → List (S53) → Int → Int → Option (Int)
 | 0, _, _, _ => none
 | k + 1, x0, x1, x5 => if 0 ≤ x1 then (if x1 < (x0.length : Int) then (if ((rd_T53 x0 x1).f0) ≥ 0 then (spec_l13Deep.l0 k x0 ((rd_T53 x0 x1).f0) (wrap64 (x5 + 1))) else (some x5)) else (none)) else (none)
def spec_l13Deep.f (k : Nat) (l0 : List (S53)) (a1 : Int) : Option (Int) := spec_l13Deep.l0 k l0 a1 1
set_option maxHeartbeats 8000000 in
set_option maxRecDepth 100000 in
theorem spec_l13Deep.calls (k : Nat) (A0 : Option Addr) (c0 : Nat) (l0 : List (S53)) (a1 : Int) (r : Int) (w : World) (hr0 : Kd.C k53 w A0 l0.length l0) (hc0 : l0.length ≤ c0) (h : spec_l13Deep.f k l0 a1 = some r) :
 Calls Try.prog 94 #[.slice A0 l0.length c0, .int .i64 a1] w fun e w' => e = .returned (.int .i64 r) ∧ Drawn0 w w' := by
 have HR0 := Aside0.mk hr0; have HC0 := Aside0.mk hc0; clear hr0 hc0; have H : (spec_l13Deep.l0 k l0 a1 1) = some r := h; clear h; have H' := Aside0.mk H; clear H; go_enter Try.func94, Try.ntmps94; go_wp2; go_loopg [1, 5] k (fun kq v1 v5 w' => ∃ (x1_1 : Int) (x5_1 : Int), v1 = .int .i64 x1_1 ∧ v5 = .int .i64 x5_1 ∧ Aside0 (spec_l13Deep.l0 kq l0 x1_1 x5_1 = some r) ∧ Aside0 (kq ≤ k) ∧ Drawn0 w w')
 case atStart => exact ⟨(a1), (1), (by first | rfl | (simp; done) | (simp [*]; done)), (by first | rfl | (simp; done) | (simp [*]; done)), H', ⟨Nat.le_refl _⟩, by repeat (first | exact Drawn0.refl _ | apply Drawn0.step)⟩
 case round =>
  clear H'; (try clear p2); obtain ⟨x1_1, x5_1, rfl, rfl, HA, HK1, ⟨m1, rfl⟩⟩ := hrel
  cases gk with
  | zero => exact absurd HA.out (by simp [spec_l13Deep.l0])
  | succ k1 =>
   have H := HA.out; clear HA; simp only [spec_l13Deep.l0] at H; by_cases c3 : 0 ≤ x1_1
   ·rw [if_pos c3] at H; have c3b0 : decide (0 ≤ x1_1) = true := decide_eq_true c3; clear c3; by_cases c4 : x1_1 < (l0.length : Int)
    ·rw [if_pos c4] at H; have c4b0 : decide (x1_1 < (l0.length : Int)) = true := decide_eq_true c4; clear c4; by_cases c5 : ((rd_T53 l0 x1_1).f0) ≥ 0
     ·rw [if_pos c5] at H; have c5b0 : decide (0 ≤ ((rd_T53 l0 x1_1).f0)) = true := decide_eq_true c5; clear c5; have H' := Aside0.mk H; clear H; have p680 : 0 ≤ (x1_1 : Int) := of_decide_eq_true (by assumption); have q680 : x1_1 < (l0.length : Int) := of_decide_eq_true (by assumption); obtain ⟨ad680, A680_1, c680_1, e680, hx680_0, hx680_1, hl680_1, hi680_1⟩ := at_T53 HR0.out x1_1 p680 q680; cases e680; have HR680_1 := Aside0.mk hi680_1; have HC680_1 := Aside0.mk hl680_1; clear hi680_1 hl680_1; replace p680 := eq_true p680; replace q680 := eq_true q680; have p681 : 0 ≤ (x1_1 : Int) := of_decide_eq_true (by assumption); have q681 : x1_1 < (l0.length : Int) := of_decide_eq_true (by assumption); obtain ⟨ad681, A681_1, c681_1, e681, hx681_0, hx681_1, hl681_1, hi681_1⟩ := at_T53 HR0.out x1_1 p681 q681; obtain rfl : ad680 = ad681 := (by injection e681); have HR681_1 := Aside0.mk hi681_1; have HC681_1 := Aside0.mk hl681_1; clear hi681_1 hl681_1; replace p681 := eq_true p681; replace q681 := eq_true q681; have ea_ := Option.some.inj (hx680_1.symm.trans hx681_1); (injection ea_ with ea_ en_ ec_); subst ea_; subst ec_; clear en_; go_wp2; go_roundg k1
      case measure => have := HK1.out; omega
      case rel => exact ⟨((rd_T53 l0 x1_1).f0), (wrap64 (x5_1 + 1)), (by first | rfl | (simp; done) | (simp [*]; done)), (by first | rfl | (simp; done) | (simp [*]; done)), H', ⟨by have := HK1.out; omega⟩, by repeat (first | exact Drawn0.refl _ | apply Drawn0.step)⟩
     ·rw [if_neg c5] at H; have c5b0 : decide (0 ≤ ((rd_T53 l0 x1_1).f0)) = false := decide_eq_false c5; clear c5; obtain rfl := Option.some.inj H; have p680 : 0 ≤ (x1_1 : Int) := of_decide_eq_true (by assumption); have q680 : x1_1 < (l0.length : Int) := of_decide_eq_true (by assumption); obtain ⟨ad680, A680_1, c680_1, e680, hx680_0, hx680_1, hl680_1, hi680_1⟩ := at_T53 HR0.out x1_1 p680 q680; cases e680; have HR680_1 := Aside0.mk hi680_1; have HC680_1 := Aside0.mk hl680_1; clear hi680_1 hl680_1; replace p680 := eq_true p680; replace q680 := eq_true q680; go_wp2; go_ret; exact ⟨by first | rfl | (simp; done) | (simp [*]; done), by repeat (first | exact Drawn0.refl _ | apply Drawn0.step)⟩
    ·rw [if_neg c4] at H; exact absurd H (by simp)
   ·rw [if_neg c3] at H; exact absurd H (by simp)
end Go.Proofs.Ytfnhjaiioojbkaa.Q
end
