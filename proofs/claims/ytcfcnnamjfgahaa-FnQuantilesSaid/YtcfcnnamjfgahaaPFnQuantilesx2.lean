-- Made by a program of this session (wip/myprint.py) out of Lean's print of the loaded functions. Not trusted: Lean checks it.
import Derived.Test.YtcfcnnamjfgahaaPFnQuantilesx0
import Derived.Test.YtcfcnnamjfgahaaPFnQuantilesx1
namespace Go.Proofs.Ytcfcnnamjfgahaa.PFnQuantiles
open Go.RowKit Go.Proofs.YtcfcnnamjfgahaaW.PrintWords Go.Proofs.YtcfcnnamjfgahaaW.PrintLast Go.Proofs.YtcfcnnamjfgahaaW.PrintMore
attribute [local go_sem] max2_int min2_int max_two min_two max_three min_three max_four min_four   -- for this text's walks alone
set_option linter.unusedVariables false
set_option linter.unusedSimpArgs false

/-! ### spec_DrawQuantileOf: function 5 -/
def spec_DrawQuantileOf.l0 : Nat → List Int → Int → List Int → Int → Int → Option (List Int × Int)
  | 0, _, _, _, _, _ => none
  | k + 1, x5, x6, x157000, x157001, x157002 => if x6 > 0 then ((spec_l1Cur_sized.f k x157000 x157001 x157002).bind fun bt160 => (if x5.length < 17592186044416 then (spec_DrawQuantileOf.l0 k (x5 ++ [bt160.1]) (wrap64 (x6 - 1)) x157000 bt160.2.1 bt160.2.2) else (none))) else ((spec_l1Cur_one.f x157000 x157001 x157002 30).bind fun bt166 => (if bt166.1 = true then ((spec_l1Cur_pick.f x157000 bt166.2.1 bt166.2.2 3).bind fun bt169 => (if 0 ≤ (wrap64 (1999 + bt169.1)) then (if (wrap64 (1999 + bt169.1) : Int).toNat ≤ 35184372088832 then ((spec_l1Cur_pick.f x157000 bt169.2.1 bt169.2.2 1001).bind fun bt175 => ((some (([bt175.1, (-5), 1001, 500] : List Int) : List Int)).bind fun y178 => ((spec_l1Cur_rare.f x157000 bt175.2.1 bt175.2.2 4).bind fun bt181 => (if 0 ≤ bt181.1 then (if bt181.1 < (y178.length : Int) then (some ((List.replicate (wrap64 (1999 + bt169.1) : Int).toNat 0), rd y178 bt181.1)) else (none)) else (none))))) else (none)) else (none))) else ((spec_l1Cur_pick.f x157000 bt166.2.1 bt166.2.2 1001).bind fun bt185 => ((some (([bt185.1, (-5), 1001, 500] : List Int) : List Int)).bind fun y188 => ((spec_l1Cur_rare.f x157000 bt185.2.1 bt185.2.2 4).bind fun bt191 => (if 0 ≤ bt191.1 then (if bt191.1 < (y188.length : Int) then (some (x5, rd y188 bt191.1)) else (none)) else (none)))))))
def spec_DrawQuantileOf.f (k : Nat) (l0 : List Int) : Option (List Int × Int) := (spec_l1Cur_pick.f l0 0 0 12).bind fun bt157 => (spec_DrawQuantileOf.l0 k ([] : List Int) bt157.1 l0 bt157.2.1 bt157.2.2)
theorem spec_DrawQuantileOf.mono_l : ∀ k, (∀ y0 y1 y2 y3 y4, LeO (spec_DrawQuantileOf.l0 k y0 y1 y2 y3 y4) (spec_DrawQuantileOf.l0 (k + 1) y0 y1 y2 y3 y4))
  | 0 => fun _ _ _ _ _ r h => by simp [spec_DrawQuantileOf.l0] at h
  | k + 1 => by
    have ih0 := spec_DrawQuantileOf.mono_l k
    · intro y0 y1 y2 y3 y4
      unfold spec_DrawQuantileOf.l0
      repeat' first
      | (with_reducible exact ih0 _ _ _ _ _)
      | (with_reducible exact spec_l1Cur_sized.mono _ _ _ _)
      | (with_reducible exact LeO.refl _)
      | (with_reducible exact LeO.none _)
      | (with_reducible refine LeO.ite ?_ ?_)
      | (with_reducible refine LeO.bind ?_ (fun _ => ?_))
      | exact ih0 _ _ _ _ _
      | exact spec_l1Cur_sized.mono _ _ _ _
      | exact LeO.none _
      | refine LeO.ite ?_ ?_
      | refine LeO.bind ?_ (fun _ => ?_)
theorem spec_DrawQuantileOf.mono : ∀ a0 k, LeO (spec_DrawQuantileOf.f k a0) (spec_DrawQuantileOf.f (k + 1) a0) := by
  intro a0 k
  have ih0 := spec_DrawQuantileOf.mono_l k
  unfold spec_DrawQuantileOf.f
  repeat' first
      | (with_reducible exact ih0 _ _ _ _ _)
      | (with_reducible exact spec_l1Cur_sized.mono _ _ _ _)
      | (with_reducible exact LeO.refl _)
      | (with_reducible exact LeO.none _)
      | (with_reducible refine LeO.ite ?_ ?_)
      | (with_reducible refine LeO.bind ?_ (fun _ => ?_))
      | exact ih0 _ _ _ _ _
      | exact spec_l1Cur_sized.mono _ _ _ _
      | exact LeO.none _
      | refine LeO.ite ?_ ?_
      | refine LeO.bind ?_ (fun _ => ?_)
def spec_DrawQuantileOf.T9 : Bool × List (List Nat × List Nat) := (true, [([], []), ([], []), ([1], [1]), ([2], [2]), ([], []), ([4, 2], [4]), ([3, 5], [3, 5]), ([6], [6]), ([0, 5, 0], [0]), ([7, 8, 0, 1, 2, 3, 4, 5, 6, 7, 8], [7])])
def spec_DrawQuantileOf.B9 : List Nat := [0, 0, 2, 6, 0, 22, 62, 126, 55, 511]
theorem spec_DrawQuantileOf.tab9 : rtab .any (opsOf Try.f5 9) = spec_DrawQuantileOf.T9 := by kernel_rfl
theorem spec_DrawQuantileOf.bits9 : waitsOk spec_DrawQuantileOf.T9.2 spec_DrawQuantileOf.B9 = true := by kernel_rfl
set_option maxHeartbeats 8000000 in
set_option maxRecDepth 100000 in
theorem spec_DrawQuantileOf.calls (k : Nat) (A0 : Option Addr) (c0 : Nat) (l0 : List Int) (r1 : List Int) (r2 : Int) (w : World) (hr0 : Kd.C (Kd.int .u8) w A0 l0.length l0) (hc0 : l0.length ≤ c0) (h : spec_DrawQuantileOf.f k l0 = some (r1, r2)) :
    Calls Try.prog 5 #[.slice A0 l0.length c0] w fun e w' => ∃ v0_ : Value, e = .returned (.tuple #[v0_, .int .i64 r2]) ∧ Kd.R (Kd.int .i64) 3 w' w.heap.size (fun _ => True) v0_ r1 ∧ Below w.heap.size w w' := by
  have hu40 := Try.underlying40
  have HR0 := Aside0.mk hr0
  have HC0 := Aside0.mk hc0
  clear hr0 hc0
  have HB := Aside0.mk (Below.refl w.heap.size w)
  have H : ((spec_l1Cur_pick.f l0 0 0 12).bind fun bt157 => (spec_DrawQuantileOf.l0 k ([] : List Int) bt157.1 l0 bt157.2.1 bt157.2.2)) = some (r1, r2) := h
  clear h
  replace H := Option.bind_eq_some_iff.mp H
  obtain ⟨⟨t157, t158, t159⟩, A20, H⟩ := H
  replace H : (spec_DrawQuantileOf.l0 k ([] : List Int) t157 l0 t158 t159) = some (r1, r2) := H
  have A2 := Aside0.mk A20
  clear A20
  have H' := Aside0.mk H
  clear H
  go_enter Try.func5, Try.ntmps5
  go_wp2_with (first | ((with_reducible refine gate_dst (N := 9) rfl ?_); refine box_event ?hg (N := 9) ?hd (cs := #[.slice A0 l0.length c0, .int .i64 0, .int .u64 0]) (t := 40) ?hr ?_; (case hd => rfl); (case hg => rfl); (case hr => first | (go_simp; done) | (go_simp; rfl)); intro gb156 hg w3 hbox hb; have n0_ := Aside0.mk (below_step (by repeat (first | (with_reducible first | exact HB.out | apply below_alloc | apply pw_below_drewN | apply below_drew1) | exact HB.out)) hb); have n1_ := Aside0.mk ((show IsS40 w w3 gb156 l0 0 0 from ⟨_, _, hbox, (by rw [hg]; exact (below_size (by repeat (first | (with_reducible first | exact HB.out | apply below_alloc | apply pw_below_drewN | apply below_drew1) | exact HB.out)))), HR0.out⟩)); clear HB; have HB := n0_; have HI156 := n1_; clear n0_ n1_; (try clear hbox); (try clear hg); (try clear hb)) | ((with_reducible refine gate_callee (f := 13) rfl ?_); refine goesL_ (some 11) rfl rfl Try.func13 (by kernel_rfl) rfl #[.pointer (some ⟨gb156, 0, none⟩), .int .i64 12] rfl (by (try simp only [List.map_toArray, List.map_cons, List.map_nil]); first | done | rfl | (simp only [List.length_drop, List.length_take]; rfl)) ?_; (with_reducible refine (spec_l1Cur_pick.calls gb156 l0 0 0 12 t157 t158 t159 w _ ?side1 ?side2 A2.out).mono ?_); (case side1 => repeat (first | (with_reducible first | exact HI156.out | apply IsS40.alloc | apply IsS40.drewN | apply IsS40.drew | apply IsS40.set_1 | apply IsS40.set_2) | exact HI156.out)); (case side2 => repeat (first | (with_reducible first | exact HB.out | apply below_alloc | apply pw_below_drewN | apply below_drew1 | refine below_set ?_ (IsS40.ge HI156.out)) | exact HB.out)); rintro e w4 ⟨rfl, hi, hb, hk⟩; refine ⟨_, rfl, ?_⟩; have n0_ := Aside0.mk (hb); have n1_ := Aside0.mk (hi); clear HB; clear HI156; have HB := n0_; have HI156 := n1_; clear n0_ n1_; (try clear hb); (try clear hb2); (try clear hk); (try clear hi)))
  go_loopg [5, 6] k (fun kq v5 v6 w' => ∃ (x5_1 : List Int) (x6_1 : Int) (x157001_1 : Int) (x157002_1 : Int), v6 = .int .i64 x6_1 ∧ Aside0 (spec_DrawQuantileOf.l0 kq x5_1 x6_1 l0 x157001_1 x157002_1 = some (r1, r2)) ∧ Aside0 (kq ≤ k) ∧ Aside0 (Kd.R (Kd.int .i64) 3 w' w.heap.size (fun _ => True) v5 x5_1) ∧ Aside0 (IsS40 w w' gb156 l0 x157001_1 x157002_1) ∧ Aside0 (Below w.heap.size w w'))
  case atStart => exact ⟨(([] : List Int)), (t157), (t158), (t159), (by first | rfl | (simp; done) | (simp [*]; done)), H', ⟨Nat.le_refl _⟩, ⟨by first | exact Kd.R_nil _ _ _ _ _ | exact Kd.N_nil _ _ _ _ _ | exact Kd.V_nil _ _ _ _ _ | exact Kd.Q_nil _ _ _ _ _ | exact Kd.S_nil _ _ _ _ _⟩, ⟨by repeat (first | (with_reducible first | exact HI156.out | apply IsS40.alloc | apply IsS40.drewN | apply IsS40.drew | apply IsS40.set_1 | apply IsS40.set_2) | exact HI156.out)⟩, ⟨by repeat (first | (with_reducible first | exact HB.out | apply below_alloc | apply pw_below_drewN | apply below_drew1 | refine below_set ?_ (IsS40.ge HI156.out)) | exact HB.out)⟩⟩
  case round =>
    clear H'
    try clear c1
    try clear p2
    obtain ⟨x5_1, x6_1, x157001_1, x157002_1, rfl, HA, HK1, HO_5, HI156, HB⟩ := hrel
    cases gk with
    | zero => exact absurd HA.out (by simp [spec_DrawQuantileOf.l0])
    | succ k1 =>
      have H := HA.out
      clear HA
      simp only [spec_DrawQuantileOf.l0] at H
      by_cases c5 : x6_1 > 0
      · rw [if_pos c5] at H
        have c5b0 : decide (0 < x6_1) = true := decide_eq_true c5
        clear c5
        replace H := Option.bind_eq_some_iff.mp H
        obtain ⟨⟨t160, t161, t162⟩, A60, H⟩ := H
        replace H : (if x5_1.length < 17592186044416 then (spec_DrawQuantileOf.l0 k1 (x5_1 ++ [t160]) (wrap64 (x6_1 - 1)) l0 t161 t162) else (none)) = some (r1, r2) := H
        have A6 := Aside0.mk A60
        clear A60
        by_cases c7 : x5_1.length < 17592186044416
        · rw [if_pos c7] at H
          have LMc7 := Aside0.mk c7
          clear c7
          obtain ⟨y163, hy163⟩ : ∃ y_ : List Int, y_ = (x5_1 ++ [t160]) := ⟨_, rfl⟩
          replace H : (spec_DrawQuantileOf.l0 k1 y163 (wrap64 (x6_1 - 1)) l0 t161 t162) = some (r1, r2) := by first | (rw [hy163]; with_reducible exact H) | (have H2_ := (Option.bind_some _ _).symm.trans H; rw [hy163]; with_reducible exact H2_) | (have H2_ := (Option.bind_some _ _).symm.trans H; with_reducible exact H2_) | with_reducible exact H | (rw [hy163]; exact H) | exact H
          have Ny163 := Aside0.mk hy163
          clear hy163
          have H' := Aside0.mk H
          clear H
          go_wp2_with (first | ((with_reducible refine gate_callee (f := 14) rfl ?_); refine goesL_ (some 18) rfl rfl Try.func14 (by kernel_rfl) rfl #[.pointer (some ⟨gb156, 0, none⟩)] rfl (by (try simp only [List.map_toArray, List.map_cons, List.map_nil]); first | done | rfl | (simp only [List.length_drop, List.length_take]; rfl)) ?_; (with_reducible refine (spec_l1Cur_sized.calls k1 gb156 l0 x157001_1 x157002_1 t160 t161 t162 w _ ?side1 ?side2 A6.out).mono ?_); (case side1 => repeat (first | (with_reducible first | exact HI156.out | apply IsS40.alloc | apply IsS40.drewN | apply IsS40.drew | apply IsS40.set_1 | apply IsS40.set_2) | exact HI156.out)); (case side2 => repeat (first | (with_reducible first | exact HB.out | apply below_alloc | apply pw_below_drewN | apply below_drew1 | refine below_set ?_ (IsS40.ge HI156.out)) | exact HB.out)); rintro e w8 ⟨rfl, hi, hb, hk⟩; refine ⟨_, rfl, ?_⟩; have n0_ := Aside0.mk (Kd.R_mono (Kd.R_keep (IsS40.apart (show IsS40 w _ gb156 l0 x157001_1 x157002_1 from by repeat (first | (with_reducible first | exact HI156.out | apply IsS40.alloc | apply IsS40.drewN | apply IsS40.drew | apply IsS40.set_1 | apply IsS40.set_2) | exact HI156.out)) (by (with_reducible repeat (first | apply Kd.R_alloc | apply Kd.R_drewN | apply Kd.R_drew)); exact HO_5.out) (by decide)) hk (fun _ h => h.2)) (fun _ h => h.1)); have n1_ := Aside0.mk (hb); have n2_ := Aside0.mk (hi); clear HO_5; clear HB; clear HI156; have HO_5 := n0_; have HB := n1_; have HI156 := n2_; clear n0_ n1_ n2_; (try clear hb); (try clear hb2); (try clear hk); (try clear hi)) | ((with_reducible refine gate_builtin (b := .append) (xs := #[.tmp 16, .tmp 19]) rfl ?_); at_builtin; refine Kd.R_append (Kd.int .i64) (w0 := w) w.heap.size rfl (.tmp 16) (.tmp 19) 23 3 (.int .i64 0) 8 rfl Try.underlying23 info3 rfl (by decide) (by omega) u5 x5_1 t160 [.int .i64 t160] (fun _ => True) (fun _ => False) rfl rfl ?aP (fun _ hk => hk.elim) ?aF ?aO ?aB ?aS ?aL ?_; (case aP => exact rfl); (case aB => exact (by repeat (first | (with_reducible first | exact HB.out | apply below_alloc | apply pw_below_drewN | apply below_drew1 | refine below_set ?_ (IsS40.ge HI156.out)) | exact HB.out))); (case aF => exact (fun _ _ => trivial)); (case aO => exact (by (with_reducible repeat (first | apply Kd.R_alloc | apply Kd.R_drewN | apply Kd.R_drew)); exact HO_5.out)); (case aS => exact (below_size (by repeat (first | (with_reducible first | exact HB.out | apply below_alloc | apply pw_below_drewN | apply below_drew1 | refine below_set ?_ (IsS40.ge HI156.out)) | exact HB.out)))); (case aL => have := LMc7.out; omega); intro v164 w9 ho hb hg hat; rw [← Ny163.out] at ho; have n0_ := Aside0.mk (IsS40.grown (by repeat (first | (with_reducible first | exact HI156.out | apply IsS40.alloc | apply IsS40.drewN | apply IsS40.drew | apply IsS40.set_1 | apply IsS40.set_2) | exact HI156.out)) hg (IsS40.own_ne HI156.out HO_5.out (by decide))); have n1_ := Aside0.mk (hb); have n2_ := Aside0.mk (ho); clear HI156; clear HB; clear HO_5; have HI156 := n0_; have HB := n1_; have HO165 := n2_; clear n0_ n1_ n2_; clear ho hb hg hat))
          go_roundg k1
          case measure => have := HK1.out; omega
          case rel => exact ⟨(y163), (wrap64 (x6_1 - 1)), (t161), (t162), (by first | rfl | (simp; done) | (simp [*]; done)), H', ⟨by have := HK1.out; omega⟩, ⟨by (with_reducible repeat (first | apply Kd.R_alloc | apply Kd.R_drewN | apply Kd.R_drew)); exact HO165.out⟩, ⟨by repeat (first | (with_reducible first | exact HI156.out | apply IsS40.alloc | apply IsS40.drewN | apply IsS40.drew | apply IsS40.set_1 | apply IsS40.set_2) | exact HI156.out)⟩, ⟨by repeat (first | (with_reducible first | exact HB.out | apply below_alloc | apply pw_below_drewN | apply below_drew1 | refine below_set ?_ (IsS40.ge HI156.out)) | exact HB.out)⟩⟩
        · rw [if_neg c7] at H
          exact absurd H (by simp)
      · rw [if_neg c5] at H
        have c5b0 : decide (0 < x6_1) = false := decide_eq_false c5
        clear c5
        replace H := Option.bind_eq_some_iff.mp H
        obtain ⟨⟨t166, t167, t168⟩, A100, H⟩ := H
        replace H : (if t166 = true then ((spec_l1Cur_pick.f l0 t167 t168 3).bind fun bt169 => (if 0 ≤ (wrap64 (1999 + bt169.1)) then (if (wrap64 (1999 + bt169.1) : Int).toNat ≤ 35184372088832 then ((spec_l1Cur_pick.f l0 bt169.2.1 bt169.2.2 1001).bind fun bt175 => ((some (([bt175.1, (-5), 1001, 500] : List Int) : List Int)).bind fun y178 => ((spec_l1Cur_rare.f l0 bt175.2.1 bt175.2.2 4).bind fun bt181 => (if 0 ≤ bt181.1 then (if bt181.1 < (y178.length : Int) then (some ((List.replicate (wrap64 (1999 + bt169.1) : Int).toNat 0), rd y178 bt181.1)) else (none)) else (none))))) else (none)) else (none))) else ((spec_l1Cur_pick.f l0 t167 t168 1001).bind fun bt185 => ((some (([bt185.1, (-5), 1001, 500] : List Int) : List Int)).bind fun y188 => ((spec_l1Cur_rare.f l0 bt185.2.1 bt185.2.2 4).bind fun bt191 => (if 0 ≤ bt191.1 then (if bt191.1 < (y188.length : Int) then (some (x5_1, rd y188 bt191.1)) else (none)) else (none)))))) = some (r1, r2) := H
        have A10 := Aside0.mk A100
        clear A100
        by_cases c11 : t166 = true
        · subst c11
          have H1 : ((spec_l1Cur_pick.f l0 t167 t168 3).bind fun bt169 => (if 0 ≤ (wrap64 (1999 + bt169.1)) then (if (wrap64 (1999 + bt169.1) : Int).toNat ≤ 35184372088832 then ((spec_l1Cur_pick.f l0 bt169.2.1 bt169.2.2 1001).bind fun bt175 => ((some (([bt175.1, (-5), 1001, 500] : List Int) : List Int)).bind fun y178 => ((spec_l1Cur_rare.f l0 bt175.2.1 bt175.2.2 4).bind fun bt181 => (if 0 ≤ bt181.1 then (if bt181.1 < (y178.length : Int) then (some ((List.replicate (wrap64 (1999 + bt169.1) : Int).toNat 0), rd y178 bt181.1)) else (none)) else (none))))) else (none)) else (none))) = some (r1, r2) := by rw [if_pos rfl] at H; exact H
          clear H
          have H := H1
          clear H1
          replace H := Option.bind_eq_some_iff.mp H
          obtain ⟨⟨t169, t170, t171⟩, A120, H⟩ := H
          replace H : (if 0 ≤ (wrap64 (1999 + t169)) then (if (wrap64 (1999 + t169) : Int).toNat ≤ 35184372088832 then ((spec_l1Cur_pick.f l0 t170 t171 1001).bind fun bt175 => ((some (([bt175.1, (-5), 1001, 500] : List Int) : List Int)).bind fun y178 => ((spec_l1Cur_rare.f l0 bt175.2.1 bt175.2.2 4).bind fun bt181 => (if 0 ≤ bt181.1 then (if bt181.1 < (y178.length : Int) then (some ((List.replicate (wrap64 (1999 + t169) : Int).toNat 0), rd y178 bt181.1)) else (none)) else (none))))) else (none)) else (none)) = some (r1, r2) := H
          have A12 := Aside0.mk A120
          clear A120
          obtain ⟨ji13, hji13⟩ : ∃ j_ : Int, (wrap64 (1999 + t169)) = j_ := ⟨_, rfl⟩
          replace H : (if 0 ≤ (ji13) then (if (ji13 : Int).toNat ≤ 35184372088832 then ((spec_l1Cur_pick.f l0 t170 t171 1001).bind fun bt175 => ((some (([bt175.1, (-5), 1001, 500] : List Int) : List Int)).bind fun y178 => ((spec_l1Cur_rare.f l0 bt175.2.1 bt175.2.2 4).bind fun bt181 => (if 0 ≤ bt181.1 then (if bt181.1 < (y178.length : Int) then (some ((List.replicate (ji13 : Int).toNat 0), rd y178 bt181.1)) else (none)) else (none))))) else (none)) else (none)) = some (r1, r2) := by first | (rw [hji13] at H; exact H) | (simp only [hji13] at H ⊢; exact H)
          (try rw [hji13] at A10)
          (try rw [hji13] at A12)
          have hji13w : (IntKind.i64.wrap (1999 + t169)) = ji13 := (i64_w _).trans hji13
          by_cases c14 : 0 ≤ (ji13)
          · rw [if_pos c14] at H
            have c14b0 := eq_true c14
            have c14b1 : decide (0 ≤ (ji13)) = true := decide_eq_true c14
            clear c14
            by_cases c15 : (ji13 : Int).toNat ≤ 35184372088832
            · rw [if_pos c15] at H
              have c15b0 := eq_true c15
              have c15b1 : decide ((ji13 : Int).toNat ≤ 35184372088832) = true := decide_eq_true c15
              clear c15
              obtain ⟨y172, hy172⟩ : ∃ y_ : List Int, y_ = (List.replicate (ji13 : Int).toNat 0) := ⟨_, rfl⟩
              replace H : ((spec_l1Cur_pick.f l0 t170 t171 1001).bind fun bt175 => ((some (([bt175.1, (-5), 1001, 500] : List Int) : List Int)).bind fun y178 => ((spec_l1Cur_rare.f l0 bt175.2.1 bt175.2.2 4).bind fun bt181 => (if 0 ≤ bt181.1 then (if bt181.1 < (y178.length : Int) then (some (y172, rd y178 bt181.1)) else (none)) else (none))))) = some (r1, r2) := by first | (rw [hy172]; with_reducible exact H) | (have H2_ := (Option.bind_some _ _).symm.trans H; rw [hy172]; with_reducible exact H2_) | (have H2_ := (Option.bind_some _ _).symm.trans H; with_reducible exact H2_) | with_reducible exact H | (rw [hy172]; exact H) | exact H
              have Ny172 := Aside0.mk hy172
              clear hy172
              replace H := Option.bind_eq_some_iff.mp H
              obtain ⟨⟨t175, t176, t177⟩, A160, H⟩ := H
              replace H : ((some (([t175, (-5), 1001, 500] : List Int) : List Int)).bind fun y178 => ((spec_l1Cur_rare.f l0 t176 t177 4).bind fun bt181 => (if 0 ≤ bt181.1 then (if bt181.1 < (y178.length : Int) then (some (y172, rd y178 bt181.1)) else (none)) else (none)))) = some (r1, r2) := H
              have A16 := Aside0.mk A160
              clear A160
              obtain ⟨y178, hy178⟩ : ∃ y_ : List Int, y_ = (([t175, (-5), 1001, 500] : List Int)) := ⟨_, rfl⟩
              replace H : ((spec_l1Cur_rare.f l0 t176 t177 4).bind fun bt181 => (if 0 ≤ bt181.1 then (if bt181.1 < (y178.length : Int) then (some (y172, rd y178 bt181.1)) else (none)) else (none))) = some (r1, r2) := by first | (rw [hy178]; with_reducible exact H) | (have H2_ := (Option.bind_some _ _).symm.trans H; rw [hy178]; with_reducible exact H2_) | (have H2_ := (Option.bind_some _ _).symm.trans H; with_reducible exact H2_) | with_reducible exact H | (rw [hy178]; exact H) | exact H
              have Ny178 := Aside0.mk hy178
              clear hy178
              replace H := Option.bind_eq_some_iff.mp H
              obtain ⟨⟨t181, t182, t183⟩, A170, H⟩ := H
              replace H : (if 0 ≤ t181 then (if t181 < (y178.length : Int) then (some (y172, rd y178 t181)) else (none)) else (none)) = some (r1, r2) := H
              have A17 := Aside0.mk A170
              clear A170
              by_cases c18 : 0 ≤ t181
              · rw [if_pos c18] at H
                have c18b0 : decide (0 ≤ t181) = true := decide_eq_true c18
                clear c18
                by_cases c19 : t181 < (y178.length : Int)
                · rw [if_pos c19] at H
                  have c19b0 : decide (t181 < (y178.length : Int)) = true := decide_eq_true c19
                  clear c19
                  simp only [Option.some.injEq, Prod.mk.injEq] at H
                  obtain ⟨rfl, rfl⟩ := H
                  try go_wp2_with (first | ((with_reducible refine gate_callee (f := 15) rfl ?_); refine goesL_ (some 22) rfl rfl Try.func15 (by kernel_rfl) rfl #[.pointer (some ⟨gb156, 0, none⟩), .int .i64 30] rfl (by (try simp only [List.map_toArray, List.map_cons, List.map_nil]); first | done | rfl | (simp only [List.length_drop, List.length_take]; rfl)) ?_; (with_reducible refine (spec_l1Cur_one.calls gb156 l0 x157001_1 x157002_1 30 true t167 t168 w _ ?side1 ?side2 A10.out).mono ?_); (case side1 => repeat (first | (with_reducible first | exact HI156.out | apply IsS40.alloc | apply IsS40.drewN | apply IsS40.drew | apply IsS40.set_1 | apply IsS40.set_2) | exact HI156.out)); (case side2 => repeat (first | (with_reducible first | exact HB.out | apply below_alloc | apply pw_below_drewN | apply below_drew1 | refine below_set ?_ (IsS40.ge HI156.out)) | exact HB.out)); rintro e w20 ⟨rfl, hi, hb, hk⟩; refine ⟨_, rfl, ?_⟩; have n0_ := Aside0.mk (Kd.R_mono (Kd.R_keep (IsS40.apart (show IsS40 w _ gb156 l0 x157001_1 x157002_1 from by repeat (first | (with_reducible first | exact HI156.out | apply IsS40.alloc | apply IsS40.drewN | apply IsS40.drew | apply IsS40.set_1 | apply IsS40.set_2) | exact HI156.out)) (by (with_reducible repeat (first | apply Kd.R_alloc | apply Kd.R_drewN | apply Kd.R_drew)); exact HO_5.out) (by decide)) hk (fun _ h => h.2)) (fun _ h => h.1)); have n1_ := Aside0.mk (hb); have n2_ := Aside0.mk (hi); clear HO_5; clear HB; clear HI156; have HO_5 := n0_; have HB := n1_; have HI156 := n2_; clear n0_ n1_ n2_; (try clear hb); (try clear hb2); (try clear hk); (try clear hi)) | ((with_reducible refine gate_callee (f := 13) rfl ?_); refine goesL_ (some 24) rfl rfl Try.func13 (by kernel_rfl) rfl #[.pointer (some ⟨gb156, 0, none⟩), .int .i64 3] rfl (by (try simp only [List.map_toArray, List.map_cons, List.map_nil]); first | done | rfl | (simp only [List.length_drop, List.length_take]; rfl)) ?_; (with_reducible refine (spec_l1Cur_pick.calls gb156 l0 t167 t168 3 t169 t170 t171 w _ ?side1 ?side2 A12.out).mono ?_); (case side1 => repeat (first | (with_reducible first | exact HI156.out | apply IsS40.alloc | apply IsS40.drewN | apply IsS40.drew | apply IsS40.set_1 | apply IsS40.set_2) | exact HI156.out)); (case side2 => repeat (first | (with_reducible first | exact HB.out | apply below_alloc | apply pw_below_drewN | apply below_drew1 | refine below_set ?_ (IsS40.ge HI156.out)) | exact HB.out)); rintro e w21 ⟨rfl, hi, hb, hk⟩; refine ⟨_, rfl, ?_⟩; have n0_ := Aside0.mk (Kd.R_mono (Kd.R_keep (IsS40.apart (show IsS40 w _ gb156 l0 t167 t168 from by repeat (first | (with_reducible first | exact HI156.out | apply IsS40.alloc | apply IsS40.drewN | apply IsS40.drew | apply IsS40.set_1 | apply IsS40.set_2) | exact HI156.out)) (by (with_reducible repeat (first | apply Kd.R_alloc | apply Kd.R_drewN | apply Kd.R_drew)); exact HO_5.out) (by decide)) hk (fun _ h => h.2)) (fun _ h => h.1)); have n1_ := Aside0.mk (hb); have n2_ := Aside0.mk (hi); clear HO_5; clear HB; clear HI156; have HO_5 := n0_; have HB := n1_; have HI156 := n2_; clear n0_ n1_ n2_; (try clear hb); (try clear hb2); (try clear hk); (try clear hi)) | ((with_reducible refine gate_dst (N := 26) rfl ?_); refine Kd.R_make (Kd.int .i64) _ 3 rfl (N := 26) rfl 23 _ _ rfl ji13 rfl rfl Try.underlying23 (.int .i64 0) 8 info3 rfl (by decide) (by omega) 0 (ok := fun _ => True) (okp := fun _ => True) rfl (fun _ hk => hk) trivial (of_decide_eq_true (by first | (with_reducible assumption) | assumption)) (Nat.le_trans (Nat.mul_le_mul_right _ (of_decide_eq_true (by first | (with_reducible assumption) | assumption) : ji13.toNat ≤ 35184372088832)) (by omega)) (Below.refl _ _) (Nat.le_refl _) ?_; intro v173 w22 ho23 hb hg_ hnew_; clear hg_ hnew_; (first | rw [← Ny172.out] at ho23 | (simp only [Int.reduceToNat] at ho23; rw [← Ny172.out] at ho23)); have n0_ := Aside0.mk (Kd.R_elder' (by (with_reducible repeat (first | apply Kd.R_alloc | apply Kd.R_drewN | apply Kd.R_drew)); exact HO_5.out) (Kd.R_base ho23) hb); have n1_ := Aside0.mk (Kd.R_lower (Kd.R_new' ho23 (Kd.R_lt (by (with_reducible repeat (first | apply Kd.R_alloc | apply Kd.R_drewN | apply Kd.R_drew)); exact HO_5.out))) (below_size (by repeat (first | (with_reducible first | exact HB.out | apply below_alloc | apply pw_below_drewN | apply below_drew1 | refine below_set ?_ (IsS40.ge HI156.out)) | exact HB.out)))); have n2_ := Aside0.mk (IsS40.below (by repeat (first | (with_reducible first | exact HI156.out | apply IsS40.alloc | apply IsS40.drewN | apply IsS40.drew | apply IsS40.set_1 | apply IsS40.set_2) | exact HI156.out)) hb); have n3_ := Aside0.mk (below_step (by repeat (first | (with_reducible first | exact HB.out | apply below_alloc | apply pw_below_drewN | apply below_drew1 | refine below_set ?_ (IsS40.ge HI156.out)) | exact HB.out)) hb); clear HO_5; clear HI156; clear HB; have HO_5 := n0_; have HO174 := n1_; have HI156 := n2_; have HB := n3_; clear n0_ n1_ n2_ n3_; clear hb ho23))
                  have pi184 : (0 ≤ (t181 : Int)) = True := eq_true (of_decide_eq_true (by first | (with_reducible assumption) | assumption))
                  have qi184 : (t181 < (y178.length : Int)) = True := eq_true (of_decide_eq_true (by first | (with_reducible assumption) | assumption))
                  have n0_ := Aside0.mk (Kd.R_drew HO_5.out)
                  have n1_ := Aside0.mk (Kd.R_drew HO174.out)
                  have n2_ := Aside0.mk (IsS40.drew HI156.out)
                  have n3_ := Aside0.mk (below_drew1 HB.out)
                  clear HO_5
                  clear HO174
                  clear HI156
                  clear HB
                  have HO_5 := n0_
                  have HO174 := n1_
                  have HI156 := n2_
                  have HB := n3_
                  clear n0_ n1_ n2_ n3_
                  refine start_ (n := 10) (S := fun w' => True) (ds := []) #[false, false, false, false, false, false, false, false, false, false] (by kernel_rfl) rfl rfl trivial (fun hHeld => ?_); refine with_tabW spec_DrawQuantileOf.tab9 spec_DrawQuantileOf.bits9 (fun HT_ HW_ => ?_)
                  generalize w22.drew = w24 at HO_5 HO174 HI156 HB hHeld ⊢
                  refine pure_ (i := 0) (N := some 27) (v := ?_) (a' := ?_) #[true, false, false, false, false, false, false, false, false, false] rfl rfl (any_of HT_.out (by kernel_rfl)) (fun _ _ _ h => h) (Or.inl ⟨by rfl, ?_⟩) ?_ ?_
                  rotate_left
                  · intro w'
                    go_simp
                    with_reducible rfl
                  rotate_left
                  · simp only [Act.put, List.setIfInBounds_toArray, List.set_cons_zero, List.set_cons_succ, i64_w, i32_w]
                    rfl
                  refine pure_ (i := 1) (N := some 28) (v := ?_) (a' := ?_) #[true, true, false, false, false, false, false, false, false, false] rfl rfl (any_of HT_.out (by kernel_rfl)) (fun _ _ _ h => h) (Or.inl ⟨by rfl, ?_⟩) ?_ ?_
                  rotate_left
                  · intro w'
                    go_simp
                    with_reducible rfl
                  rotate_left
                  · simp only [Act.put, List.setIfInBounds_toArray, List.set_cons_zero, List.set_cons_succ, i64_w, i32_w]
                    rfl
                  refine pure_ (i := 4) (N := some 31) (v := ?_) (a' := ?_) #[true, true, false, false, true, false, false, false, false, false] rfl rfl (any_of HT_.out (by kernel_rfl)) (fun _ _ _ h => h) (Or.inl ⟨by rfl, ?_⟩) ?_ ?_
                  rotate_left
                  · intro w'
                    go_simp
                    with_reducible rfl
                  rotate_left
                  · simp only [Act.put, List.setIfInBounds_toArray, List.set_cons_zero, List.set_cons_succ, i64_w, i32_w]
                    rfl
                  refine inv_at [2, 3, 5, 6, 7, 8, 9] (fun a0_ b a w' => ∃ (v179 : Value) (adz_v179 : Addr) (m6_ : Value), a = putSel a0_ b [(2, 29, .int .i64 t175), (3, 30, v179), (5, 32, .int .i64 t181), (6, 33, m6_), (7, 34, .int .i64 (rd y178 t181)), (8, 2, v173), (9, 3, .int .i64 (rd y178 t181))] ∧ (Kd.R (Kd.int .i64) 3 w' w.heap.size (fun k_ => some k_ ≠ (u5 : Value).ownBlock) v173 y172) ∧ (Kd.R (Kd.int .i64) 3 w' w.heap.size (fun k_ => some k_ ≠ (v173 : Value).ownBlock) u5 x5_1) ∧ (b 2 = false → IsS40 w w' gb156 l0 t170 t171) ∧ (Below w.heap.size w w') ∧ (b 2 = true → b 5 = false → IsS40 w w' gb156 l0 t176 t177) ∧ (b 3 = true → Kd.R (Kd.int .i64) 3 w' w.heap.size (fun k_ => some k_ ≠ (v173 : Value).ownBlock ∧ some k_ ≠ (u5 : Value).ownBlock) v179 y178) ∧ (b 3 = true → ∃ c_, (v179 : Value) = .slice (some adz_v179) y178.length c_) ∧ (b 5 = true → IsS40 w w' gb156 l0 t182 t183) ∧ (b 6 = true → (m6_ : Value) = .pointer (some (adz_v179.add (t181).toNat)))) HT_.out HW_.out (by kernel_rfl) (by kernel_rfl) ?_ ?_ ?_
                  · exact ⟨.bool false, ⟨0, 0, none⟩, .bool false, by simp only [putSel, Bool.false_eq_true, if_false], Kd.R_mono HO174.out (fun _ hk => by first | exact trivial | exact hk | exact hk.2 | exact hk.1 | exact ⟨hk.2, hk.1⟩ | exact ⟨hk.1.2, hk.2⟩ | exact ⟨hk.2, hk.1.2⟩ | exact ⟨trivial, hk⟩), Kd.R_mono HO_5.out (fun _ hk => by first | exact trivial | exact hk | exact hk.2 | exact hk.1 | exact ⟨hk.2, hk.1⟩ | exact ⟨hk.1.2, hk.2⟩ | exact ⟨hk.2, hk.1.2⟩ | exact ⟨trivial, hk⟩), fun _ => HI156.out, HB.out, fun h_ => absurd h_ (by decide), fun h_ => absurd h_ (by decide), fun h_ => absurd h_ (by decide), fun h_ => absurd h_ (by decide), fun h_ => absurd h_ (by decide)⟩
                  · skip
                    clear HB HI156 HO174 HO_5
                    refine steps_cons ?_ ?_
                    · rintro b a w' ⟨v179, adz_v179, m6_, ha, Q_HO174, Q_HO_5, Q_HI156, Q_HB, Q_HI156_e2, Q_HO180, Q_HA_HO180, Q_HI156_e5, Q_X6_⟩ hb_ hon hoff
                      refine ⟨_, rfl, fun K hK => ?_⟩
                      have e28 : a.tmps[28]? = some (.pointer (some ⟨gb156, 0, none⟩)) := by rw [ha]; exact (putSel_off rfl).trans rfl
                      replace ha := Aside0.mk ha
                      have HO174 := Aside0.mk Q_HO174
                      have HO_5 := Aside0.mk Q_HO_5
                      have HI156 := Aside0.mk (Q_HI156 hb_)
                      have HB := Aside0.mk Q_HB
                      refine goes_ Try.func13 (by kernel_rfl) rfl #[.pointer (some ⟨gb156, 0, none⟩), .int .i64 1001] (by rfl) rfl rfl (by first | (simp only [List.map_toArray, List.map_cons, List.map_nil, Act.eval, Array.getD_eq_getD_getElem?, Option.getD_some, e28]; done) | (simp only [List.map_toArray, List.map_cons, List.map_nil, Act.eval, Array.getD_eq_getD_getElem?, Option.getD_some, e28]; rfl)) ?_
                      with_reducible refine (spec_l1Cur_pick.calls gb156 l0 t170 t171 1001 t175 t176 t177 w _ ?side1 ?side2 A16.out).mono ?_
                      (case side1 => repeat (first | (with_reducible first | exact HI156.out | apply IsS40.alloc | apply IsS40.drewN | apply IsS40.drew | apply IsS40.set_1 | apply IsS40.set_2) | exact HI156.out))
                      (case side2 => repeat (first | (with_reducible first | exact HB.out | apply below_alloc | apply pw_below_drewN | apply below_drew1 | refine below_set ?_ (IsS40.ge HI156.out)) | exact HB.out))
                      rintro e w25 ⟨rfl, hi, hb, hk⟩
                      refine ⟨_, rfl, ?_⟩
                      have n0_ := Aside0.mk (Kd.R_mono (Kd.R_keep (IsS40.apart (show IsS40 w _ gb156 l0 t170 t171 from by repeat (first | (with_reducible first | exact HI156.out | apply IsS40.alloc | apply IsS40.drewN | apply IsS40.drew | apply IsS40.set_1 | apply IsS40.set_2) | exact HI156.out)) (by (with_reducible repeat (first | apply Kd.R_alloc | apply Kd.R_drewN | apply Kd.R_drew)); exact HO_5.out) (by decide)) hk (fun _ h => h.2)) (fun _ h => h.1))
                      have n1_ := Aside0.mk (Kd.R_mono (Kd.R_keep (IsS40.apart (show IsS40 w _ gb156 l0 t170 t171 from by repeat (first | (with_reducible first | exact HI156.out | apply IsS40.alloc | apply IsS40.drewN | apply IsS40.drew | apply IsS40.set_1 | apply IsS40.set_2) | exact HI156.out)) (by (with_reducible repeat (first | apply Kd.R_alloc | apply Kd.R_drewN | apply Kd.R_drew)); exact HO174.out) (by decide)) hk (fun _ h => h.2)) (fun _ h => h.1))
                      have n2_ := Aside0.mk (hb)
                      have n3_ := Aside0.mk (hi)
                      clear HO_5
                      clear HO174
                      clear HB
                      clear HI156
                      have HO_5 := n0_
                      have HO174 := n1_
                      have HB := n2_
                      have HI156 := n3_
                      clear n0_ n1_ n2_ n3_
                      (try clear hb)
                      (try clear hb2)
                      (try clear hk)
                      (try clear hi)
                      refine hK.out _ _ ⟨v179, adz_v179, m6_, (by rw [ha.out]; exact putSel_upk 0 hb_ rfl rfl rfl), (by (with_reducible repeat (first | apply Kd.R_alloc | apply Kd.R_drewN | apply Kd.R_drew)); exact Kd.R_mono HO174.out (fun _ hk => by first | exact trivial | exact hk | exact hk.2 | exact hk.1 | exact ⟨hk.2, hk.1⟩ | exact ⟨hk.1.2, hk.2⟩ | exact ⟨hk.2, hk.1.2⟩ | exact ⟨trivial, hk⟩)), (by (with_reducible repeat (first | apply Kd.R_alloc | apply Kd.R_drewN | apply Kd.R_drew)); exact Kd.R_mono HO_5.out (fun _ hk => by first | exact trivial | exact hk | exact hk.2 | exact hk.1 | exact ⟨hk.2, hk.1⟩ | exact ⟨hk.1.2, hk.2⟩ | exact ⟨hk.2, hk.1.2⟩ | exact ⟨trivial, hk⟩)), fun h0_ => absurd ((up_self b 2).symm.trans h0_) (by decide), (by repeat (first | (with_reducible first | exact HB.out | apply below_alloc | apply pw_below_drewN | apply below_drew1 | refine below_set ?_ (IsS40.ge HI156.out)) | exact HB.out)), fun _ _ => (by repeat (first | (with_reducible first | exact HI156.out | apply IsS40.alloc | apply IsS40.drewN | apply IsS40.drew | apply IsS40.set_1 | apply IsS40.set_2) | exact HI156.out)), fun h0_ => absurd ((hoff 3 (by kernel_rfl)).symm.trans h0_) (by decide), fun h0_ => absurd ((hoff 3 (by kernel_rfl)).symm.trans h0_) (by decide), fun h0_ => absurd ((hoff 5 (by kernel_rfl)).symm.trans h0_) (by decide), fun h0_ => absurd ((hoff 6 (by kernel_rfl)).symm.trans h0_) (by decide)⟩
                    refine steps_cons ?_ ?_
                    · rintro b a w' ⟨v179, adz_v179, m6_, ha, Q_HO174, Q_HO_5, Q_HI156, Q_HB, Q_HI156_e2, Q_HO180, Q_HA_HO180, Q_HI156_e5, Q_X6_⟩ hb_ hon hoff
                      refine ⟨_, rfl, fun K hK => ?_⟩
                      have e29 : a.tmps[29]? = some (.int .i64 t175) := by rw [ha]; exact putSel_on (e := (2, 29, .int .i64 t175)) 0 rfl rfl (hon 2 (by kernel_rfl)) rfl
                      replace ha := Aside0.mk ha
                      have HO174 := Aside0.mk Q_HO174
                      have HO_5 := Aside0.mk Q_HO_5
                      have HB := Aside0.mk Q_HB
                      refine Kd.R_lit_step (Kd.int .i64) _ 3 ?hg (N := 30) ?hd (xs := ([t175, (-5), 1001, 500] : List Int)) (inner := [.int .i64 t175, .int .i64 (-5), .int .i64 1001, .int .i64 500]) (ok := fun _ => True) (okp := fun _ => True) ?hr ?hp (fun _ hk => hk) trivial (Below.refl _ _) (Nat.le_refl _) (by simp) ?_; (case hd => rfl); (case hg => rfl); (case hr => first | (go_simp; done) | (go_simp; rfl)); (case hp => exact (Reps.one (show Kd.M (Kd.int .i64) _ _ _ t175 [.int .i64 t175] from rfl) (Reps.one (show Kd.M (Kd.int .i64) _ _ _ (-5) [.int .i64 (-5)] from rfl) (Reps.one (show Kd.M (Kd.int .i64) _ _ _ 1001 [.int .i64 1001] from rfl) (Reps.one (show Kd.M (Kd.int .i64) _ _ _ 500 [.int .i64 500] from rfl) (Reps.none _ _))))))
                      intro v179 w27 ho28 hb hg_ hnew_
                      clear hg_ hnew_
                      (first | rw [← Ny178.out] at ho28 | (simp only [Int.reduceToNat] at ho28; rw [← Ny178.out] at ho28))
                      have n0_ := Aside0.mk (Kd.R_elder' (by (with_reducible repeat (first | apply Kd.R_alloc | apply Kd.R_drewN | apply Kd.R_drew)); exact HO_5.out) (Kd.R_base ho28) hb)
                      have n1_ := Aside0.mk (Kd.R_elder' (by (with_reducible repeat (first | apply Kd.R_alloc | apply Kd.R_drewN | apply Kd.R_drew)); exact HO174.out) (Kd.R_base ho28) hb)
                      have n2_ := Aside0.mk (Kd.R_lower (Kd.R_new' (Kd.R_new' ho28 (Kd.R_lt (by (with_reducible repeat (first | apply Kd.R_alloc | apply Kd.R_drewN | apply Kd.R_drew)); exact HO_5.out))) (Kd.R_lt (by (with_reducible repeat (first | apply Kd.R_alloc | apply Kd.R_drewN | apply Kd.R_drew)); exact HO174.out))) (below_size (by repeat (first | (with_reducible first | exact HB.out | apply below_alloc | apply pw_below_drewN | apply below_drew1) | exact HB.out))))
                      have n4_ := Aside0.mk (below_step (by repeat (first | (with_reducible first | exact HB.out | apply below_alloc | apply pw_below_drewN | apply below_drew1) | exact HB.out)) hb)
                      have z_HI156_e2 := fun (h0_ : b 2 = true) (h1_ : b 5 = false) => (show IsS40 w w27 gb156 l0 t176 t177 from by first | exact (IsS40.below (by repeat (first | (with_reducible first | exact (Q_HI156_e2 h0_ h1_) | apply IsS40.alloc | apply IsS40.drewN | apply IsS40.drew | apply IsS40.set_1 | apply IsS40.set_2) | exact (Q_HI156_e2 h0_ h1_))) hb))
                      have z_HI156_e5 := fun (h0_ : b 5 = true) => (show IsS40 w w27 gb156 l0 t182 t183 from by first | exact (IsS40.below (by repeat (first | (with_reducible first | exact (Q_HI156_e5 h0_) | apply IsS40.alloc | apply IsS40.drewN | apply IsS40.drew | apply IsS40.set_1 | apply IsS40.set_2) | exact (Q_HI156_e5 h0_))) hb))
                      clear HO_5
                      clear HO174
                      clear HB
                      have HO_5 := n0_
                      have HO174 := n1_
                      have HO180 := n2_
                      have HB := n4_
                      clear n0_ n1_ n2_ n4_
                      clear hb ho28
                      obtain ⟨Ao29, co29, eo29⟩ := Kd.R_slice HO180.out
                      subst eo29
                      obtain ⟨ado29, fo29, _⟩ := Kd.at_int (Kd.R_reads' HO180.out).2.2 0 (by decide) (by rw [Ny178.out]; simp)
                      cases fo29
                      refine hK.out _ _ ⟨.slice (some ado29) y178.length co29, ado29, m6_, (by rw [ha.out]; exact putSel_upk 1 hb_ rfl rfl rfl), (by (with_reducible repeat (first | apply Kd.R_alloc | apply Kd.R_drewN | apply Kd.R_drew)); exact Kd.R_mono HO174.out (fun _ hk => by first | exact trivial | exact hk | exact hk.2 | exact hk.1 | exact ⟨hk.2, hk.1⟩ | exact ⟨hk.1.2, hk.2⟩ | exact ⟨hk.2, hk.1.2⟩ | exact ⟨trivial, hk⟩)), (by (with_reducible repeat (first | apply Kd.R_alloc | apply Kd.R_drewN | apply Kd.R_drew)); exact Kd.R_mono HO_5.out (fun _ hk => by first | exact trivial | exact hk | exact hk.2 | exact hk.1 | exact ⟨hk.2, hk.1⟩ | exact ⟨hk.1.2, hk.2⟩ | exact ⟨hk.2, hk.1.2⟩ | exact ⟨trivial, hk⟩)), fun h0_ => absurd ((hon 2 (by kernel_rfl)).symm.trans h0_) (by decide), (by repeat (first | (with_reducible first | exact HB.out | apply below_alloc | apply pw_below_drewN | apply below_drew1) | exact HB.out)), z_HI156_e2, fun _ => (by (with_reducible repeat (first | apply Kd.R_alloc | apply Kd.R_drewN | apply Kd.R_drew)); exact Kd.R_mono HO180.out (fun _ hk => by first | exact trivial | exact hk | exact hk.2 | exact hk.1 | exact ⟨hk.2, hk.1⟩ | exact ⟨hk.1.2, hk.2⟩ | exact ⟨hk.2, hk.1.2⟩ | exact ⟨trivial, hk⟩)), fun _ => ⟨_, rfl⟩, z_HI156_e5, fun h0_ => absurd ((hoff 6 (by kernel_rfl)).symm.trans h0_) (by decide)⟩
                    refine steps_cons ?_ ?_
                    · rintro b a w' ⟨v179, adz_v179, m6_, ha, Q_HO174, Q_HO_5, Q_HI156, Q_HB, Q_HI156_e2, Q_HO180, Q_HA_HO180, Q_HI156_e5, Q_X6_⟩ hb_ hon hoff
                      refine ⟨_, rfl, fun K hK => ?_⟩
                      have e31 : a.tmps[31]? = some (.pointer (some ⟨gb156, 0, none⟩)) := by rw [ha]; exact (putSel_off rfl).trans rfl
                      replace ha := Aside0.mk ha
                      have HO174 := Aside0.mk Q_HO174
                      have HO_5 := Aside0.mk Q_HO_5
                      have HB := Aside0.mk Q_HB
                      have HI156 := Aside0.mk (Q_HI156_e2 (hon 2 (by kernel_rfl)) hb_)
                      refine goes_ Try.func16 (by kernel_rfl) rfl #[.pointer (some ⟨gb156, 0, none⟩), .int .i64 4] (by rfl) rfl rfl (by first | (simp only [List.map_toArray, List.map_cons, List.map_nil, Act.eval, Array.getD_eq_getD_getElem?, Option.getD_some, e31]; done) | (simp only [List.map_toArray, List.map_cons, List.map_nil, Act.eval, Array.getD_eq_getD_getElem?, Option.getD_some, e31]; rfl)) ?_
                      with_reducible refine (spec_l1Cur_rare.calls gb156 l0 t176 t177 4 t181 t182 t183 w _ ?side1 ?side2 A17.out).mono ?_
                      (case side1 => repeat (first | (with_reducible first | exact HI156.out | apply IsS40.alloc | apply IsS40.drewN | apply IsS40.drew | apply IsS40.set_1 | apply IsS40.set_2) | exact HI156.out))
                      (case side2 => repeat (first | (with_reducible first | exact HB.out | apply below_alloc | apply pw_below_drewN | apply below_drew1 | refine below_set ?_ (IsS40.ge HI156.out)) | exact HB.out))
                      rintro e w27 ⟨rfl, hi, hb, hk⟩
                      refine ⟨_, rfl, ?_⟩
                      have n0_ := Aside0.mk (Kd.R_mono (Kd.R_keep (IsS40.apart (show IsS40 w _ gb156 l0 t176 t177 from by repeat (first | (with_reducible first | exact HI156.out | apply IsS40.alloc | apply IsS40.drewN | apply IsS40.drew | apply IsS40.set_1 | apply IsS40.set_2) | exact HI156.out)) (by (with_reducible repeat (first | apply Kd.R_alloc | apply Kd.R_drewN | apply Kd.R_drew)); exact HO_5.out) (by decide)) hk (fun _ h => h.2)) (fun _ h => h.1))
                      have n1_ := Aside0.mk (Kd.R_mono (Kd.R_keep (IsS40.apart (show IsS40 w _ gb156 l0 t176 t177 from by repeat (first | (with_reducible first | exact HI156.out | apply IsS40.alloc | apply IsS40.drewN | apply IsS40.drew | apply IsS40.set_1 | apply IsS40.set_2) | exact HI156.out)) (by (with_reducible repeat (first | apply Kd.R_alloc | apply Kd.R_drewN | apply Kd.R_drew)); exact HO174.out) (by decide)) hk (fun _ h => h.2)) (fun _ h => h.1))
                      have n2_ := Aside0.mk (hb)
                      have n3_ := Aside0.mk (hi)
                      have z_HO180 := fun (h0_ : b 3 = true) => (show Kd.R (Kd.int .i64) 3 w27 w.heap.size (fun k_ => some k_ ≠ (v173 : Value).ownBlock ∧ some k_ ≠ (u5 : Value).ownBlock) v179 y178 from by first | exact (Kd.R_mono (Kd.R_keep (IsS40.apart (show IsS40 w _ gb156 l0 t176 t177 from by repeat (first | (with_reducible first | exact HI156.out | apply IsS40.alloc | apply IsS40.drewN | apply IsS40.drew | apply IsS40.set_1 | apply IsS40.set_2) | exact HI156.out)) (by (with_reducible repeat (first | apply Kd.R_alloc | apply Kd.R_drewN | apply Kd.R_drew)); exact (Q_HO180 h0_)) (by decide)) hk (fun _ h => h.2)) (fun _ h => h.1)) | exact Kd.R_mono (Kd.R_mono (Kd.R_keep (IsS40.apart (show IsS40 w _ gb156 l0 t176 t177 from by repeat (first | (with_reducible first | exact HI156.out | apply IsS40.alloc | apply IsS40.drewN | apply IsS40.drew | apply IsS40.set_1 | apply IsS40.set_2) | exact HI156.out)) (by (with_reducible repeat (first | apply Kd.R_alloc | apply Kd.R_drewN | apply Kd.R_drew)); exact (Q_HO180 h0_)) (by decide)) hk (fun _ h => h.2)) (fun _ h => h.1)) (fun _ h_ => by first | trivial | exact h_ | exact h_.1))
                      clear HO_5
                      clear HO174
                      clear HB
                      clear HI156
                      have HO_5 := n0_
                      have HO174 := n1_
                      have HB := n2_
                      have HI156 := n3_
                      clear n0_ n1_ n2_ n3_
                      (try clear hb)
                      (try clear hb2)
                      (try clear hk)
                      (try clear hi)
                      refine hK.out _ _ ⟨v179, adz_v179, m6_, (by rw [ha.out]; exact putSel_upk 2 hb_ rfl rfl rfl), (by (with_reducible repeat (first | apply Kd.R_alloc | apply Kd.R_drewN | apply Kd.R_drew)); exact Kd.R_mono HO174.out (fun _ hk => by first | exact trivial | exact hk | exact hk.2 | exact hk.1 | exact ⟨hk.2, hk.1⟩ | exact ⟨hk.1.2, hk.2⟩ | exact ⟨hk.2, hk.1.2⟩ | exact ⟨trivial, hk⟩)), (by (with_reducible repeat (first | apply Kd.R_alloc | apply Kd.R_drewN | apply Kd.R_drew)); exact Kd.R_mono HO_5.out (fun _ hk => by first | exact trivial | exact hk | exact hk.2 | exact hk.1 | exact ⟨hk.2, hk.1⟩ | exact ⟨hk.1.2, hk.2⟩ | exact ⟨hk.2, hk.1.2⟩ | exact ⟨trivial, hk⟩)), fun h0_ => absurd ((hon 2 (by kernel_rfl)).symm.trans h0_) (by decide), (by repeat (first | (with_reducible first | exact HB.out | apply below_alloc | apply pw_below_drewN | apply below_drew1 | refine below_set ?_ (IsS40.ge HI156.out)) | exact HB.out)), fun _ h1_ => absurd ((up_self b 5).symm.trans h1_) (by decide), z_HO180, Q_HA_HO180, fun _ => (by repeat (first | (with_reducible first | exact HI156.out | apply IsS40.alloc | apply IsS40.drewN | apply IsS40.drew | apply IsS40.set_1 | apply IsS40.set_2) | exact HI156.out)), fun h0_ => absurd ((hoff 6 (by kernel_rfl)).symm.trans h0_) (by decide)⟩
                    refine steps_cons ?_ ?_
                    · rintro b a w' ⟨v179, adz_v179, m6_, ha, Q_HO174, Q_HO_5, Q_HI156, Q_HB, Q_HI156_e2, Q_HO180, Q_HA_HO180, Q_HI156_e5, Q_X6_⟩ hb_ hon hoff
                      refine ⟨_, rfl, fun K hK => ?_⟩
                      have e30 : a.tmps[30]? = some (v179) := by rw [ha]; exact putSel_on (e := (3, 30, v179)) 1 rfl rfl (hon 3 (by kernel_rfl)) rfl
                      have e32 : a.tmps[32]? = some (.int .i64 t181) := by rw [ha]; exact putSel_on (e := (5, 32, .int .i64 t181)) 2 rfl rfl (hon 5 (by kernel_rfl)) rfl
                      replace ha := Aside0.mk ha
                      have HO174 := Aside0.mk Q_HO174
                      have HO_5 := Aside0.mk Q_HO_5
                      have HB := Aside0.mk Q_HB
                      have HO180 := Aside0.mk (Q_HO180 (hon 3 (by kernel_rfl)))
                      have HA_HO180 := Aside0.mk (Q_HA_HO180 (hon 3 (by kernel_rfl)))
                      have HI156 := Aside0.mk (Q_HI156_e5 (hon 5 (by kernel_rfl)))
                      obtain ⟨c_, hv_⟩ := HA_HO180.out
                      rw [hv_] at e30
                      refine value_ (w1 := w') (v := .pointer (some (adz_v179.add (t181).toNat))) (by rfl) rfl ?_ ?_
                      · go_simp
                        (try simp only [i64_w])
                        try rfl
                      refine hK.out _ _ ⟨v179, adz_v179, (.pointer (some (adz_v179.add (t181).toNat))), (by rw [ha.out]; exact putSel_upk 3 hb_ rfl rfl rfl), Q_HO174, Q_HO_5, fun h0_ => absurd ((hon 2 (by kernel_rfl)).symm.trans h0_) (by decide), Q_HB, fun _ h1_ => absurd ((hon 5 (by kernel_rfl)).symm.trans h1_) (by decide), Q_HO180, Q_HA_HO180, Q_HI156_e5, fun _ => rfl⟩
                    refine steps_cons ?_ ?_
                    · rintro b a w' ⟨v179, adz_v179, m6_, ha, Q_HO174, Q_HO_5, Q_HI156, Q_HB, Q_HI156_e2, Q_HO180, Q_HA_HO180, Q_HI156_e5, Q_X6_⟩ hb_ hon hoff
                      refine ⟨_, rfl, fun K hK => ?_⟩
                      have e33 : a.tmps[33]? = some (m6_) := by rw [ha]; exact putSel_on (e := (6, 33, m6_)) 3 rfl rfl (hon 6 (by kernel_rfl)) rfl
                      rw [Q_X6_ (hon 6 (by kernel_rfl))] at e33
                      replace ha := Aside0.mk ha
                      have HO174 := Aside0.mk Q_HO174
                      have HO_5 := Aside0.mk Q_HO_5
                      have HB := Aside0.mk Q_HB
                      have HO180 := Aside0.mk (Q_HO180 (hon 3 (by kernel_rfl)))
                      have HA_HO180 := Aside0.mk (Q_HA_HO180 (hon 3 (by kernel_rfl)))
                      have HI156 := Aside0.mk (Q_HI156_e5 (hon 5 (by kernel_rfl)))
                      obtain ⟨c_, hv_⟩ := HA_HO180.out
                      have hF_ := HO180.out
                      rw [hv_] at hF_
                      obtain ⟨ad_, ea_, hx_⟩ := Kd.at_int (Kd.R_reads' hF_).2.2 t181 (of_eq_true pi184) (of_eq_true qi184)
                      cases ea_
                      refine value_ (w1 := w') (v := .int .i64 (rd y178 t181)) (by rfl) rfl ?_ ?_
                      · go_simp
                        (try simp only [i64_w])
                        try rfl
                      refine hK.out _ _ ⟨v179, adz_v179, m6_, (by rw [ha.out]; exact putSel_upk 4 hb_ rfl rfl rfl), Q_HO174, Q_HO_5, fun h0_ => absurd ((hon 2 (by kernel_rfl)).symm.trans h0_) (by decide), Q_HB, fun _ h1_ => absurd ((hon 5 (by kernel_rfl)).symm.trans h1_) (by decide), Q_HO180, Q_HA_HO180, Q_HI156_e5, Q_X6_⟩
                    refine steps_cons ?_ ?_
                    · rintro b a w' ⟨v179, adz_v179, m6_, ha, Q_HO174, Q_HO_5, Q_HI156, Q_HB, Q_HI156_e2, Q_HO180, Q_HA_HO180, Q_HI156_e5, Q_X6_⟩ hb_ hon hoff
                      refine ⟨_, rfl, fun K hK => ?_⟩
                      have e27 : a.tmps[27]? = some (v173) := by rw [ha]; exact (putSel_off rfl).trans rfl
                      replace ha := Aside0.mk ha
                      have HO174 := Aside0.mk Q_HO174
                      have HO_5 := Aside0.mk Q_HO_5
                      have HB := Aside0.mk Q_HB
                      have HI156 := Aside0.mk (Q_HI156_e5 (hon 5 (by kernel_rfl)))
                      refine value_ (w1 := w') (v := v173) (by rfl) rfl ?_ ?_
                      · go_simp
                        (try simp only [i64_w])
                        try rfl
                      refine hK.out _ _ ⟨v179, adz_v179, m6_, (by rw [ha.out]; exact putSel_upk 5 hb_ rfl rfl rfl), Q_HO174, Q_HO_5, fun h0_ => absurd ((hon 2 (by kernel_rfl)).symm.trans h0_) (by decide), Q_HB, fun _ h1_ => absurd ((hon 5 (by kernel_rfl)).symm.trans h1_) (by decide), Q_HO180, Q_HA_HO180, Q_HI156_e5, Q_X6_⟩
                    refine steps_cons ?_ ?_
                    · rintro b a w' ⟨v179, adz_v179, m6_, ha, Q_HO174, Q_HO_5, Q_HI156, Q_HB, Q_HI156_e2, Q_HO180, Q_HA_HO180, Q_HI156_e5, Q_X6_⟩ hb_ hon hoff
                      refine ⟨_, rfl, fun K hK => ?_⟩
                      have e34 : a.tmps[34]? = some (.int .i64 (rd y178 t181)) := by rw [ha]; exact putSel_on (e := (7, 34, .int .i64 (rd y178 t181))) 4 rfl rfl (hon 7 (by kernel_rfl)) rfl
                      replace ha := Aside0.mk ha
                      have HO174 := Aside0.mk Q_HO174
                      have HO_5 := Aside0.mk Q_HO_5
                      have HB := Aside0.mk Q_HB
                      have HO180 := Aside0.mk (Q_HO180 (hon 3 (by kernel_rfl)))
                      have HA_HO180 := Aside0.mk (Q_HA_HO180 (hon 3 (by kernel_rfl)))
                      have HI156 := Aside0.mk (Q_HI156_e5 (hon 5 (by kernel_rfl)))
                      refine value_ (w1 := w') (v := .int .i64 (rd y178 t181)) (by rfl) rfl ?_ ?_
                      · go_simp
                        (try simp only [i64_w])
                        try rfl
                      refine hK.out _ _ ⟨v179, adz_v179, m6_, (by rw [ha.out]; exact putSel_upk 6 hb_ rfl rfl rfl), Q_HO174, Q_HO_5, fun h0_ => absurd ((hon 2 (by kernel_rfl)).symm.trans h0_) (by decide), Q_HB, fun _ h1_ => absurd ((hon 5 (by kernel_rfl)).symm.trans h1_) (by decide), Q_HO180, Q_HA_HO180, Q_HI156_e5, Q_X6_⟩
                    exact steps_nil
                  rintro b a w30 hall ⟨v179, adz_v179, m6_, ha, Q_HO174, Q_HO_5, Q_HI156, Q_HB, Q_HI156_e2, Q_HO180, Q_HA_HO180, Q_HI156_e5, Q_X6_⟩
                  clear HB HI156 HO174 HO_5
                  have hb2_ := hall 2 (by kernel_rfl)
                  have hb3_ := hall 3 (by kernel_rfl)
                  have hb5_ := hall 5 (by kernel_rfl)
                  have hb6_ := hall 6 (by kernel_rfl)
                  have hb7_ := hall 7 (by kernel_rfl)
                  have hb8_ := hall 8 (by kernel_rfl)
                  have hb9_ := hall 9 (by kernel_rfl)
                  subst ha
                  obtain rfl := Q_X6_ hb6_
                  simp only [putSel, hb2_, hb3_, hb5_, hb6_, hb7_, hb8_, hb9_, if_true, Act.put, List.setIfInBounds_toArray, List.set_cons_zero, List.set_cons_succ]
                  have HO174 := Aside0.mk Q_HO174
                  clear Q_HO174
                  have HO_5 := Aside0.mk Q_HO_5
                  clear Q_HO_5
                  clear Q_HI156
                  have HB := Aside0.mk Q_HB
                  clear Q_HB
                  clear Q_HI156_e2
                  have HO180 := Aside0.mk (Q_HO180 hb3_)
                  clear Q_HO180
                  have HA_HO180 := Aside0.mk (Q_HA_HO180 hb3_)
                  clear Q_HA_HO180
                  have HI156 := Aside0.mk (Q_HI156_e5 hb5_)
                  clear Q_HI156_e5
                  clear hall hb2_ hb3_ hb5_ hb6_ hb7_ hb8_ hb9_
                  obtain ⟨co31, eo31⟩ := HA_HO180.out
                  clear HA_HO180
                  subst eo31
                  try go_wp2
                  go_ret2
                  exact ⟨_, by first | rfl | (simp [errW_none, errW_some] <;> rfl) | (simp only [← hji13]; first | rfl | (simp [errW_none, errW_some] <;> rfl)) | (simp [*, errW_none, errW_some] <;> rfl), by (with_reducible repeat (first | apply Kd.R_alloc | apply Kd.R_drewN | apply Kd.R_drew)); exact Kd.R_mono HO174.out (fun _ hk => trivial), by repeat (first | (with_reducible first | exact HB.out | apply below_alloc | apply pw_below_drewN | apply below_drew1 | refine below_set ?_ (IsS40.ge HI156.out)) | exact HB.out)⟩
                · rw [if_neg c19] at H
                  exact absurd H (by simp)
              · rw [if_neg c18] at H
                exact absurd H (by simp)
            · rw [if_neg c15] at H
              exact absurd H (by simp)
          · rw [if_neg c14] at H
            exact absurd H (by simp)
        · replace c11 := Bool.eq_false_iff.mpr c11
          subst c11
          have H1 : ((spec_l1Cur_pick.f l0 t167 t168 1001).bind fun bt185 => ((some (([bt185.1, (-5), 1001, 500] : List Int) : List Int)).bind fun y188 => ((spec_l1Cur_rare.f l0 bt185.2.1 bt185.2.2 4).bind fun bt191 => (if 0 ≤ bt191.1 then (if bt191.1 < (y188.length : Int) then (some (x5_1, rd y188 bt191.1)) else (none)) else (none))))) = some (r1, r2) := by rw [if_neg (show ¬ (false = true) by decide)] at H; exact H
          clear H
          have H := H1
          clear H1
          replace H := Option.bind_eq_some_iff.mp H
          obtain ⟨⟨t185, t186, t187⟩, A320, H⟩ := H
          replace H : ((some (([t185, (-5), 1001, 500] : List Int) : List Int)).bind fun y188 => ((spec_l1Cur_rare.f l0 t186 t187 4).bind fun bt191 => (if 0 ≤ bt191.1 then (if bt191.1 < (y188.length : Int) then (some (x5_1, rd y188 bt191.1)) else (none)) else (none)))) = some (r1, r2) := H
          have A32 := Aside0.mk A320
          clear A320
          obtain ⟨y188, hy188⟩ : ∃ y_ : List Int, y_ = (([t185, (-5), 1001, 500] : List Int)) := ⟨_, rfl⟩
          replace H : ((spec_l1Cur_rare.f l0 t186 t187 4).bind fun bt191 => (if 0 ≤ bt191.1 then (if bt191.1 < (y188.length : Int) then (some (x5_1, rd y188 bt191.1)) else (none)) else (none))) = some (r1, r2) := by first | (rw [hy188]; with_reducible exact H) | (have H2_ := (Option.bind_some _ _).symm.trans H; rw [hy188]; with_reducible exact H2_) | (have H2_ := (Option.bind_some _ _).symm.trans H; with_reducible exact H2_) | with_reducible exact H | (rw [hy188]; exact H) | exact H
          have Ny188 := Aside0.mk hy188
          clear hy188
          replace H := Option.bind_eq_some_iff.mp H
          obtain ⟨⟨t191, t192, t193⟩, A330, H⟩ := H
          replace H : (if 0 ≤ t191 then (if t191 < (y188.length : Int) then (some (x5_1, rd y188 t191)) else (none)) else (none)) = some (r1, r2) := H
          have A33 := Aside0.mk A330
          clear A330
          by_cases c34 : 0 ≤ t191
          · rw [if_pos c34] at H
            have c34b0 : decide (0 ≤ t191) = true := decide_eq_true c34
            clear c34
            by_cases c35 : t191 < (y188.length : Int)
            · rw [if_pos c35] at H
              have c35b0 : decide (t191 < (y188.length : Int)) = true := decide_eq_true c35
              clear c35
              simp only [Option.some.injEq, Prod.mk.injEq] at H
              obtain ⟨rfl, rfl⟩ := H
              try go_wp2_with (first | ((with_reducible refine gate_callee (f := 15) rfl ?_); refine goesL_ (some 22) rfl rfl Try.func15 (by kernel_rfl) rfl #[.pointer (some ⟨gb156, 0, none⟩), .int .i64 30] rfl (by (try simp only [List.map_toArray, List.map_cons, List.map_nil]); first | done | rfl | (simp only [List.length_drop, List.length_take]; rfl)) ?_; (with_reducible refine (spec_l1Cur_one.calls gb156 l0 x157001_1 x157002_1 30 false t167 t168 w _ ?side1 ?side2 A10.out).mono ?_); (case side1 => repeat (first | (with_reducible first | exact HI156.out | apply IsS40.alloc | apply IsS40.drewN | apply IsS40.drew | apply IsS40.set_1 | apply IsS40.set_2) | exact HI156.out)); (case side2 => repeat (first | (with_reducible first | exact HB.out | apply below_alloc | apply pw_below_drewN | apply below_drew1 | refine below_set ?_ (IsS40.ge HI156.out)) | exact HB.out)); rintro e w36 ⟨rfl, hi, hb, hk⟩; refine ⟨_, rfl, ?_⟩; have n0_ := Aside0.mk (Kd.R_mono (Kd.R_keep (IsS40.apart (show IsS40 w _ gb156 l0 x157001_1 x157002_1 from by repeat (first | (with_reducible first | exact HI156.out | apply IsS40.alloc | apply IsS40.drewN | apply IsS40.drew | apply IsS40.set_1 | apply IsS40.set_2) | exact HI156.out)) (by (with_reducible repeat (first | apply Kd.R_alloc | apply Kd.R_drewN | apply Kd.R_drew)); exact HO_5.out) (by decide)) hk (fun _ h => h.2)) (fun _ h => h.1)); have n1_ := Aside0.mk (hb); have n2_ := Aside0.mk (hi); clear HO_5; clear HB; clear HI156; have HO_5 := n0_; have HB := n1_; have HI156 := n2_; clear n0_ n1_ n2_; (try clear hb); (try clear hb2); (try clear hk); (try clear hi)))
              have pi194 : (0 ≤ (t191 : Int)) = True := eq_true (of_decide_eq_true (by first | (with_reducible assumption) | assumption))
              have qi194 : (t191 < (y188.length : Int)) = True := eq_true (of_decide_eq_true (by first | (with_reducible assumption) | assumption))
              have n0_ := Aside0.mk (Kd.R_drew HO_5.out)
              have n1_ := Aside0.mk (IsS40.drew HI156.out)
              have n2_ := Aside0.mk (below_drew1 HB.out)
              clear HO_5
              clear HI156
              clear HB
              have HO_5 := n0_
              have HI156 := n1_
              have HB := n2_
              clear n0_ n1_ n2_
              refine start_ (n := 10) (S := fun w' => True) (ds := []) #[false, false, false, false, false, false, false, false, false, false] (by kernel_rfl) rfl rfl trivial (fun hHeld => ?_); refine with_tabW spec_DrawQuantileOf.tab9 spec_DrawQuantileOf.bits9 (fun HT_ HW_ => ?_)
              generalize w36.drew = w37 at HO_5 HI156 HB hHeld ⊢
              refine pure_ (i := 0) (N := some 27) (v := ?_) (a' := ?_) #[true, false, false, false, false, false, false, false, false, false] rfl rfl (any_of HT_.out (by kernel_rfl)) (fun _ _ _ h => h) (Or.inl ⟨by rfl, ?_⟩) ?_ ?_
              rotate_left
              · intro w'
                go_simp
                with_reducible rfl
              rotate_left
              · simp only [Act.put, List.setIfInBounds_toArray, List.set_cons_zero, List.set_cons_succ, i64_w, i32_w]
                rfl
              refine pure_ (i := 1) (N := some 28) (v := ?_) (a' := ?_) #[true, true, false, false, false, false, false, false, false, false] rfl rfl (any_of HT_.out (by kernel_rfl)) (fun _ _ _ h => h) (Or.inl ⟨by rfl, ?_⟩) ?_ ?_
              rotate_left
              · intro w'
                go_simp
                with_reducible rfl
              rotate_left
              · simp only [Act.put, List.setIfInBounds_toArray, List.set_cons_zero, List.set_cons_succ, i64_w, i32_w]
                rfl
              refine pure_ (i := 4) (N := some 31) (v := ?_) (a' := ?_) #[true, true, false, false, true, false, false, false, false, false] rfl rfl (any_of HT_.out (by kernel_rfl)) (fun _ _ _ h => h) (Or.inl ⟨by rfl, ?_⟩) ?_ ?_
              rotate_left
              · intro w'
                go_simp
                with_reducible rfl
              rotate_left
              · simp only [Act.put, List.setIfInBounds_toArray, List.set_cons_zero, List.set_cons_succ, i64_w, i32_w]
                rfl
              refine inv_at [2, 3, 5, 6, 7, 8, 9] (fun a0_ b a w' => ∃ (v189 : Value) (adz_v189 : Addr) (m6_ : Value), a = putSel a0_ b [(2, 29, .int .i64 t185), (3, 30, v189), (5, 32, .int .i64 t191), (6, 33, m6_), (7, 34, .int .i64 (rd y188 t191)), (8, 2, u5), (9, 3, .int .i64 (rd y188 t191))] ∧ (Kd.R (Kd.int .i64) 3 w' w.heap.size (fun _ => True) u5 x5_1) ∧ (b 2 = false → IsS40 w w' gb156 l0 t167 t168) ∧ (Below w.heap.size w w') ∧ (b 2 = true → b 5 = false → IsS40 w w' gb156 l0 t186 t187) ∧ (b 3 = true → Kd.R (Kd.int .i64) 3 w' w.heap.size (fun k_ => some k_ ≠ (u5 : Value).ownBlock) v189 y188) ∧ (b 3 = true → ∃ c_, (v189 : Value) = .slice (some adz_v189) y188.length c_) ∧ (b 5 = true → IsS40 w w' gb156 l0 t192 t193) ∧ (b 6 = true → (m6_ : Value) = .pointer (some (adz_v189.add (t191).toNat)))) HT_.out HW_.out (by kernel_rfl) (by kernel_rfl) ?_ ?_ ?_
              · exact ⟨.bool false, ⟨0, 0, none⟩, .bool false, by simp only [putSel, Bool.false_eq_true, if_false], Kd.R_mono HO_5.out (fun _ hk => by first | exact trivial | exact hk | exact hk.2 | exact hk.1 | exact ⟨hk.2, hk.1⟩ | exact ⟨hk.1.2, hk.2⟩ | exact ⟨hk.2, hk.1.2⟩ | exact ⟨trivial, hk⟩), fun _ => HI156.out, HB.out, fun h_ => absurd h_ (by decide), fun h_ => absurd h_ (by decide), fun h_ => absurd h_ (by decide), fun h_ => absurd h_ (by decide), fun h_ => absurd h_ (by decide)⟩
              · skip
                clear HB HI156 HO_5
                refine steps_cons ?_ ?_
                · rintro b a w' ⟨v189, adz_v189, m6_, ha, Q_HO_5, Q_HI156, Q_HB, Q_HI156_e2, Q_HO190, Q_HA_HO190, Q_HI156_e5, Q_X6_⟩ hb_ hon hoff
                  refine ⟨_, rfl, fun K hK => ?_⟩
                  have e28 : a.tmps[28]? = some (.pointer (some ⟨gb156, 0, none⟩)) := by rw [ha]; exact (putSel_off rfl).trans rfl
                  replace ha := Aside0.mk ha
                  have HO_5 := Aside0.mk Q_HO_5
                  have HI156 := Aside0.mk (Q_HI156 hb_)
                  have HB := Aside0.mk Q_HB
                  refine goes_ Try.func13 (by kernel_rfl) rfl #[.pointer (some ⟨gb156, 0, none⟩), .int .i64 1001] (by rfl) rfl rfl (by first | (simp only [List.map_toArray, List.map_cons, List.map_nil, Act.eval, Array.getD_eq_getD_getElem?, Option.getD_some, e28]; done) | (simp only [List.map_toArray, List.map_cons, List.map_nil, Act.eval, Array.getD_eq_getD_getElem?, Option.getD_some, e28]; rfl)) ?_
                  with_reducible refine (spec_l1Cur_pick.calls gb156 l0 t167 t168 1001 t185 t186 t187 w _ ?side1 ?side2 A32.out).mono ?_
                  (case side1 => repeat (first | (with_reducible first | exact HI156.out | apply IsS40.alloc | apply IsS40.drewN | apply IsS40.drew | apply IsS40.set_1 | apply IsS40.set_2) | exact HI156.out))
                  (case side2 => repeat (first | (with_reducible first | exact HB.out | apply below_alloc | apply pw_below_drewN | apply below_drew1 | refine below_set ?_ (IsS40.ge HI156.out)) | exact HB.out))
                  rintro e w38 ⟨rfl, hi, hb, hk⟩
                  refine ⟨_, rfl, ?_⟩
                  have n0_ := Aside0.mk (Kd.R_mono (Kd.R_keep (IsS40.apart (show IsS40 w _ gb156 l0 t167 t168 from by repeat (first | (with_reducible first | exact HI156.out | apply IsS40.alloc | apply IsS40.drewN | apply IsS40.drew | apply IsS40.set_1 | apply IsS40.set_2) | exact HI156.out)) (by (with_reducible repeat (first | apply Kd.R_alloc | apply Kd.R_drewN | apply Kd.R_drew)); exact HO_5.out) (by decide)) hk (fun _ h => h.2)) (fun _ h => h.1))
                  have n1_ := Aside0.mk (hb)
                  have n2_ := Aside0.mk (hi)
                  clear HO_5
                  clear HB
                  clear HI156
                  have HO_5 := n0_
                  have HB := n1_
                  have HI156 := n2_
                  clear n0_ n1_ n2_
                  (try clear hb)
                  (try clear hb2)
                  (try clear hk)
                  (try clear hi)
                  refine hK.out _ _ ⟨v189, adz_v189, m6_, (by rw [ha.out]; exact putSel_upk 0 hb_ rfl rfl rfl), (by (with_reducible repeat (first | apply Kd.R_alloc | apply Kd.R_drewN | apply Kd.R_drew)); exact Kd.R_mono HO_5.out (fun _ hk => by first | exact trivial | exact hk | exact hk.2 | exact hk.1 | exact ⟨hk.2, hk.1⟩ | exact ⟨hk.1.2, hk.2⟩ | exact ⟨hk.2, hk.1.2⟩ | exact ⟨trivial, hk⟩)), fun h0_ => absurd ((up_self b 2).symm.trans h0_) (by decide), (by repeat (first | (with_reducible first | exact HB.out | apply below_alloc | apply pw_below_drewN | apply below_drew1 | refine below_set ?_ (IsS40.ge HI156.out)) | exact HB.out)), fun _ _ => (by repeat (first | (with_reducible first | exact HI156.out | apply IsS40.alloc | apply IsS40.drewN | apply IsS40.drew | apply IsS40.set_1 | apply IsS40.set_2) | exact HI156.out)), fun h0_ => absurd ((hoff 3 (by kernel_rfl)).symm.trans h0_) (by decide), fun h0_ => absurd ((hoff 3 (by kernel_rfl)).symm.trans h0_) (by decide), fun h0_ => absurd ((hoff 5 (by kernel_rfl)).symm.trans h0_) (by decide), fun h0_ => absurd ((hoff 6 (by kernel_rfl)).symm.trans h0_) (by decide)⟩
                refine steps_cons ?_ ?_
                · rintro b a w' ⟨v189, adz_v189, m6_, ha, Q_HO_5, Q_HI156, Q_HB, Q_HI156_e2, Q_HO190, Q_HA_HO190, Q_HI156_e5, Q_X6_⟩ hb_ hon hoff
                  refine ⟨_, rfl, fun K hK => ?_⟩
                  have e29 : a.tmps[29]? = some (.int .i64 t185) := by rw [ha]; exact putSel_on (e := (2, 29, .int .i64 t185)) 0 rfl rfl (hon 2 (by kernel_rfl)) rfl
                  replace ha := Aside0.mk ha
                  have HO_5 := Aside0.mk Q_HO_5
                  have HB := Aside0.mk Q_HB
                  refine Kd.R_lit_step (Kd.int .i64) _ 3 ?hg (N := 30) ?hd (xs := ([t185, (-5), 1001, 500] : List Int)) (inner := [.int .i64 t185, .int .i64 (-5), .int .i64 1001, .int .i64 500]) (ok := fun _ => True) (okp := fun _ => True) ?hr ?hp (fun _ hk => hk) trivial (Below.refl _ _) (Nat.le_refl _) (by simp) ?_; (case hd => rfl); (case hg => rfl); (case hr => first | (go_simp; done) | (go_simp; rfl)); (case hp => exact (Reps.one (show Kd.M (Kd.int .i64) _ _ _ t185 [.int .i64 t185] from rfl) (Reps.one (show Kd.M (Kd.int .i64) _ _ _ (-5) [.int .i64 (-5)] from rfl) (Reps.one (show Kd.M (Kd.int .i64) _ _ _ 1001 [.int .i64 1001] from rfl) (Reps.one (show Kd.M (Kd.int .i64) _ _ _ 500 [.int .i64 500] from rfl) (Reps.none _ _))))))
                  intro v189 w40 ho41 hb hg_ hnew_
                  clear hg_ hnew_
                  (first | rw [← Ny188.out] at ho41 | (simp only [Int.reduceToNat] at ho41; rw [← Ny188.out] at ho41))
                  have n0_ := Aside0.mk (Kd.R_elder' (by (with_reducible repeat (first | apply Kd.R_alloc | apply Kd.R_drewN | apply Kd.R_drew)); exact HO_5.out) (Kd.R_base ho41) hb)
                  have n1_ := Aside0.mk (Kd.R_lower (Kd.R_new' ho41 (Kd.R_lt (by (with_reducible repeat (first | apply Kd.R_alloc | apply Kd.R_drewN | apply Kd.R_drew)); exact HO_5.out))) (below_size (by repeat (first | (with_reducible first | exact HB.out | apply below_alloc | apply pw_below_drewN | apply below_drew1) | exact HB.out))))
                  have n3_ := Aside0.mk (below_step (by repeat (first | (with_reducible first | exact HB.out | apply below_alloc | apply pw_below_drewN | apply below_drew1) | exact HB.out)) hb)
                  have z_HI156_e2 := fun (h0_ : b 2 = true) (h1_ : b 5 = false) => (show IsS40 w w40 gb156 l0 t186 t187 from by first | exact (IsS40.below (by repeat (first | (with_reducible first | exact (Q_HI156_e2 h0_ h1_) | apply IsS40.alloc | apply IsS40.drewN | apply IsS40.drew | apply IsS40.set_1 | apply IsS40.set_2) | exact (Q_HI156_e2 h0_ h1_))) hb))
                  have z_HI156_e5 := fun (h0_ : b 5 = true) => (show IsS40 w w40 gb156 l0 t192 t193 from by first | exact (IsS40.below (by repeat (first | (with_reducible first | exact (Q_HI156_e5 h0_) | apply IsS40.alloc | apply IsS40.drewN | apply IsS40.drew | apply IsS40.set_1 | apply IsS40.set_2) | exact (Q_HI156_e5 h0_))) hb))
                  clear HO_5
                  clear HB
                  have HO_5 := n0_
                  have HO190 := n1_
                  have HB := n3_
                  clear n0_ n1_ n3_
                  clear hb ho41
                  obtain ⟨Ao42, co42, eo42⟩ := Kd.R_slice HO190.out
                  subst eo42
                  obtain ⟨ado42, fo42, _⟩ := Kd.at_int (Kd.R_reads' HO190.out).2.2 0 (by decide) (by rw [Ny188.out]; simp)
                  cases fo42
                  refine hK.out _ _ ⟨.slice (some ado42) y188.length co42, ado42, m6_, (by rw [ha.out]; exact putSel_upk 1 hb_ rfl rfl rfl), (by (with_reducible repeat (first | apply Kd.R_alloc | apply Kd.R_drewN | apply Kd.R_drew)); exact Kd.R_mono HO_5.out (fun _ hk => by first | exact trivial | exact hk | exact hk.2 | exact hk.1 | exact ⟨hk.2, hk.1⟩ | exact ⟨hk.1.2, hk.2⟩ | exact ⟨hk.2, hk.1.2⟩ | exact ⟨trivial, hk⟩)), fun h0_ => absurd ((hon 2 (by kernel_rfl)).symm.trans h0_) (by decide), (by repeat (first | (with_reducible first | exact HB.out | apply below_alloc | apply pw_below_drewN | apply below_drew1) | exact HB.out)), z_HI156_e2, fun _ => (by (with_reducible repeat (first | apply Kd.R_alloc | apply Kd.R_drewN | apply Kd.R_drew)); exact Kd.R_mono HO190.out (fun _ hk => by first | exact trivial | exact hk | exact hk.2 | exact hk.1 | exact ⟨hk.2, hk.1⟩ | exact ⟨hk.1.2, hk.2⟩ | exact ⟨hk.2, hk.1.2⟩ | exact ⟨trivial, hk⟩)), fun _ => ⟨_, rfl⟩, z_HI156_e5, fun h0_ => absurd ((hoff 6 (by kernel_rfl)).symm.trans h0_) (by decide)⟩
                refine steps_cons ?_ ?_
                · rintro b a w' ⟨v189, adz_v189, m6_, ha, Q_HO_5, Q_HI156, Q_HB, Q_HI156_e2, Q_HO190, Q_HA_HO190, Q_HI156_e5, Q_X6_⟩ hb_ hon hoff
                  refine ⟨_, rfl, fun K hK => ?_⟩
                  have e31 : a.tmps[31]? = some (.pointer (some ⟨gb156, 0, none⟩)) := by rw [ha]; exact (putSel_off rfl).trans rfl
                  replace ha := Aside0.mk ha
                  have HO_5 := Aside0.mk Q_HO_5
                  have HB := Aside0.mk Q_HB
                  have HI156 := Aside0.mk (Q_HI156_e2 (hon 2 (by kernel_rfl)) hb_)
                  refine goes_ Try.func16 (by kernel_rfl) rfl #[.pointer (some ⟨gb156, 0, none⟩), .int .i64 4] (by rfl) rfl rfl (by first | (simp only [List.map_toArray, List.map_cons, List.map_nil, Act.eval, Array.getD_eq_getD_getElem?, Option.getD_some, e31]; done) | (simp only [List.map_toArray, List.map_cons, List.map_nil, Act.eval, Array.getD_eq_getD_getElem?, Option.getD_some, e31]; rfl)) ?_
                  with_reducible refine (spec_l1Cur_rare.calls gb156 l0 t186 t187 4 t191 t192 t193 w _ ?side1 ?side2 A33.out).mono ?_
                  (case side1 => repeat (first | (with_reducible first | exact HI156.out | apply IsS40.alloc | apply IsS40.drewN | apply IsS40.drew | apply IsS40.set_1 | apply IsS40.set_2) | exact HI156.out))
                  (case side2 => repeat (first | (with_reducible first | exact HB.out | apply below_alloc | apply pw_below_drewN | apply below_drew1 | refine below_set ?_ (IsS40.ge HI156.out)) | exact HB.out))
                  rintro e w40 ⟨rfl, hi, hb, hk⟩
                  refine ⟨_, rfl, ?_⟩
                  have n0_ := Aside0.mk (Kd.R_mono (Kd.R_keep (IsS40.apart (show IsS40 w _ gb156 l0 t186 t187 from by repeat (first | (with_reducible first | exact HI156.out | apply IsS40.alloc | apply IsS40.drewN | apply IsS40.drew | apply IsS40.set_1 | apply IsS40.set_2) | exact HI156.out)) (by (with_reducible repeat (first | apply Kd.R_alloc | apply Kd.R_drewN | apply Kd.R_drew)); exact HO_5.out) (by decide)) hk (fun _ h => h.2)) (fun _ h => h.1))
                  have n1_ := Aside0.mk (hb)
                  have n2_ := Aside0.mk (hi)
                  have z_HO190 := fun (h0_ : b 3 = true) => (show Kd.R (Kd.int .i64) 3 w40 w.heap.size (fun k_ => some k_ ≠ (u5 : Value).ownBlock) v189 y188 from by first | exact (Kd.R_mono (Kd.R_keep (IsS40.apart (show IsS40 w _ gb156 l0 t186 t187 from by repeat (first | (with_reducible first | exact HI156.out | apply IsS40.alloc | apply IsS40.drewN | apply IsS40.drew | apply IsS40.set_1 | apply IsS40.set_2) | exact HI156.out)) (by (with_reducible repeat (first | apply Kd.R_alloc | apply Kd.R_drewN | apply Kd.R_drew)); exact (Q_HO190 h0_)) (by decide)) hk (fun _ h => h.2)) (fun _ h => h.1)) | exact Kd.R_mono (Kd.R_mono (Kd.R_keep (IsS40.apart (show IsS40 w _ gb156 l0 t186 t187 from by repeat (first | (with_reducible first | exact HI156.out | apply IsS40.alloc | apply IsS40.drewN | apply IsS40.drew | apply IsS40.set_1 | apply IsS40.set_2) | exact HI156.out)) (by (with_reducible repeat (first | apply Kd.R_alloc | apply Kd.R_drewN | apply Kd.R_drew)); exact (Q_HO190 h0_)) (by decide)) hk (fun _ h => h.2)) (fun _ h => h.1)) (fun _ h_ => by first | trivial | exact h_ | exact h_.1))
                  clear HO_5
                  clear HB
                  clear HI156
                  have HO_5 := n0_
                  have HB := n1_
                  have HI156 := n2_
                  clear n0_ n1_ n2_
                  (try clear hb)
                  (try clear hb2)
                  (try clear hk)
                  (try clear hi)
                  refine hK.out _ _ ⟨v189, adz_v189, m6_, (by rw [ha.out]; exact putSel_upk 2 hb_ rfl rfl rfl), (by (with_reducible repeat (first | apply Kd.R_alloc | apply Kd.R_drewN | apply Kd.R_drew)); exact Kd.R_mono HO_5.out (fun _ hk => by first | exact trivial | exact hk | exact hk.2 | exact hk.1 | exact ⟨hk.2, hk.1⟩ | exact ⟨hk.1.2, hk.2⟩ | exact ⟨hk.2, hk.1.2⟩ | exact ⟨trivial, hk⟩)), fun h0_ => absurd ((hon 2 (by kernel_rfl)).symm.trans h0_) (by decide), (by repeat (first | (with_reducible first | exact HB.out | apply below_alloc | apply pw_below_drewN | apply below_drew1 | refine below_set ?_ (IsS40.ge HI156.out)) | exact HB.out)), fun _ h1_ => absurd ((up_self b 5).symm.trans h1_) (by decide), z_HO190, Q_HA_HO190, fun _ => (by repeat (first | (with_reducible first | exact HI156.out | apply IsS40.alloc | apply IsS40.drewN | apply IsS40.drew | apply IsS40.set_1 | apply IsS40.set_2) | exact HI156.out)), fun h0_ => absurd ((hoff 6 (by kernel_rfl)).symm.trans h0_) (by decide)⟩
                refine steps_cons ?_ ?_
                · rintro b a w' ⟨v189, adz_v189, m6_, ha, Q_HO_5, Q_HI156, Q_HB, Q_HI156_e2, Q_HO190, Q_HA_HO190, Q_HI156_e5, Q_X6_⟩ hb_ hon hoff
                  refine ⟨_, rfl, fun K hK => ?_⟩
                  have e30 : a.tmps[30]? = some (v189) := by rw [ha]; exact putSel_on (e := (3, 30, v189)) 1 rfl rfl (hon 3 (by kernel_rfl)) rfl
                  have e32 : a.tmps[32]? = some (.int .i64 t191) := by rw [ha]; exact putSel_on (e := (5, 32, .int .i64 t191)) 2 rfl rfl (hon 5 (by kernel_rfl)) rfl
                  replace ha := Aside0.mk ha
                  have HO_5 := Aside0.mk Q_HO_5
                  have HB := Aside0.mk Q_HB
                  have HO190 := Aside0.mk (Q_HO190 (hon 3 (by kernel_rfl)))
                  have HA_HO190 := Aside0.mk (Q_HA_HO190 (hon 3 (by kernel_rfl)))
                  have HI156 := Aside0.mk (Q_HI156_e5 (hon 5 (by kernel_rfl)))
                  obtain ⟨c_, hv_⟩ := HA_HO190.out
                  rw [hv_] at e30
                  refine value_ (w1 := w') (v := .pointer (some (adz_v189.add (t191).toNat))) (by rfl) rfl ?_ ?_
                  · go_simp
                    (try simp only [i64_w])
                    try rfl
                  refine hK.out _ _ ⟨v189, adz_v189, (.pointer (some (adz_v189.add (t191).toNat))), (by rw [ha.out]; exact putSel_upk 3 hb_ rfl rfl rfl), Q_HO_5, fun h0_ => absurd ((hon 2 (by kernel_rfl)).symm.trans h0_) (by decide), Q_HB, fun _ h1_ => absurd ((hon 5 (by kernel_rfl)).symm.trans h1_) (by decide), Q_HO190, Q_HA_HO190, Q_HI156_e5, fun _ => rfl⟩
                refine steps_cons ?_ ?_
                · rintro b a w' ⟨v189, adz_v189, m6_, ha, Q_HO_5, Q_HI156, Q_HB, Q_HI156_e2, Q_HO190, Q_HA_HO190, Q_HI156_e5, Q_X6_⟩ hb_ hon hoff
                  refine ⟨_, rfl, fun K hK => ?_⟩
                  have e33 : a.tmps[33]? = some (m6_) := by rw [ha]; exact putSel_on (e := (6, 33, m6_)) 3 rfl rfl (hon 6 (by kernel_rfl)) rfl
                  rw [Q_X6_ (hon 6 (by kernel_rfl))] at e33
                  replace ha := Aside0.mk ha
                  have HO_5 := Aside0.mk Q_HO_5
                  have HB := Aside0.mk Q_HB
                  have HO190 := Aside0.mk (Q_HO190 (hon 3 (by kernel_rfl)))
                  have HA_HO190 := Aside0.mk (Q_HA_HO190 (hon 3 (by kernel_rfl)))
                  have HI156 := Aside0.mk (Q_HI156_e5 (hon 5 (by kernel_rfl)))
                  obtain ⟨c_, hv_⟩ := HA_HO190.out
                  have hF_ := HO190.out
                  rw [hv_] at hF_
                  obtain ⟨ad_, ea_, hx_⟩ := Kd.at_int (Kd.R_reads' hF_).2.2 t191 (of_eq_true pi194) (of_eq_true qi194)
                  cases ea_
                  refine value_ (w1 := w') (v := .int .i64 (rd y188 t191)) (by rfl) rfl ?_ ?_
                  · go_simp
                    (try simp only [i64_w])
                    try rfl
                  refine hK.out _ _ ⟨v189, adz_v189, m6_, (by rw [ha.out]; exact putSel_upk 4 hb_ rfl rfl rfl), Q_HO_5, fun h0_ => absurd ((hon 2 (by kernel_rfl)).symm.trans h0_) (by decide), Q_HB, fun _ h1_ => absurd ((hon 5 (by kernel_rfl)).symm.trans h1_) (by decide), Q_HO190, Q_HA_HO190, Q_HI156_e5, Q_X6_⟩
                refine steps_cons ?_ ?_
                · rintro b a w' ⟨v189, adz_v189, m6_, ha, Q_HO_5, Q_HI156, Q_HB, Q_HI156_e2, Q_HO190, Q_HA_HO190, Q_HI156_e5, Q_X6_⟩ hb_ hon hoff
                  refine ⟨_, rfl, fun K hK => ?_⟩
                  have e27 : a.tmps[27]? = some (u5) := by rw [ha]; exact (putSel_off rfl).trans rfl
                  replace ha := Aside0.mk ha
                  have HO_5 := Aside0.mk Q_HO_5
                  have HB := Aside0.mk Q_HB
                  have HI156 := Aside0.mk (Q_HI156_e5 (hon 5 (by kernel_rfl)))
                  refine value_ (w1 := w') (v := u5) (by rfl) rfl ?_ ?_
                  · go_simp
                    (try simp only [i64_w])
                    try rfl
                  refine hK.out _ _ ⟨v189, adz_v189, m6_, (by rw [ha.out]; exact putSel_upk 5 hb_ rfl rfl rfl), Q_HO_5, fun h0_ => absurd ((hon 2 (by kernel_rfl)).symm.trans h0_) (by decide), Q_HB, fun _ h1_ => absurd ((hon 5 (by kernel_rfl)).symm.trans h1_) (by decide), Q_HO190, Q_HA_HO190, Q_HI156_e5, Q_X6_⟩
                refine steps_cons ?_ ?_
                · rintro b a w' ⟨v189, adz_v189, m6_, ha, Q_HO_5, Q_HI156, Q_HB, Q_HI156_e2, Q_HO190, Q_HA_HO190, Q_HI156_e5, Q_X6_⟩ hb_ hon hoff
                  refine ⟨_, rfl, fun K hK => ?_⟩
                  have e34 : a.tmps[34]? = some (.int .i64 (rd y188 t191)) := by rw [ha]; exact putSel_on (e := (7, 34, .int .i64 (rd y188 t191))) 4 rfl rfl (hon 7 (by kernel_rfl)) rfl
                  replace ha := Aside0.mk ha
                  have HO_5 := Aside0.mk Q_HO_5
                  have HB := Aside0.mk Q_HB
                  have HO190 := Aside0.mk (Q_HO190 (hon 3 (by kernel_rfl)))
                  have HA_HO190 := Aside0.mk (Q_HA_HO190 (hon 3 (by kernel_rfl)))
                  have HI156 := Aside0.mk (Q_HI156_e5 (hon 5 (by kernel_rfl)))
                  refine value_ (w1 := w') (v := .int .i64 (rd y188 t191)) (by rfl) rfl ?_ ?_
                  · go_simp
                    (try simp only [i64_w])
                    try rfl
                  refine hK.out _ _ ⟨v189, adz_v189, m6_, (by rw [ha.out]; exact putSel_upk 6 hb_ rfl rfl rfl), Q_HO_5, fun h0_ => absurd ((hon 2 (by kernel_rfl)).symm.trans h0_) (by decide), Q_HB, fun _ h1_ => absurd ((hon 5 (by kernel_rfl)).symm.trans h1_) (by decide), Q_HO190, Q_HA_HO190, Q_HI156_e5, Q_X6_⟩
                exact steps_nil
              rintro b a w43 hall ⟨v189, adz_v189, m6_, ha, Q_HO_5, Q_HI156, Q_HB, Q_HI156_e2, Q_HO190, Q_HA_HO190, Q_HI156_e5, Q_X6_⟩
              clear HB HI156 HO_5
              have hb2_ := hall 2 (by kernel_rfl)
              have hb3_ := hall 3 (by kernel_rfl)
              have hb5_ := hall 5 (by kernel_rfl)
              have hb6_ := hall 6 (by kernel_rfl)
              have hb7_ := hall 7 (by kernel_rfl)
              have hb8_ := hall 8 (by kernel_rfl)
              have hb9_ := hall 9 (by kernel_rfl)
              subst ha
              obtain rfl := Q_X6_ hb6_
              simp only [putSel, hb2_, hb3_, hb5_, hb6_, hb7_, hb8_, hb9_, if_true, Act.put, List.setIfInBounds_toArray, List.set_cons_zero, List.set_cons_succ]
              have HO_5 := Aside0.mk Q_HO_5
              clear Q_HO_5
              clear Q_HI156
              have HB := Aside0.mk Q_HB
              clear Q_HB
              clear Q_HI156_e2
              have HO190 := Aside0.mk (Q_HO190 hb3_)
              clear Q_HO190
              have HA_HO190 := Aside0.mk (Q_HA_HO190 hb3_)
              clear Q_HA_HO190
              have HI156 := Aside0.mk (Q_HI156_e5 hb5_)
              clear Q_HI156_e5
              clear hall hb2_ hb3_ hb5_ hb6_ hb7_ hb8_ hb9_
              obtain ⟨co44, eo44⟩ := HA_HO190.out
              clear HA_HO190
              subst eo44
              try go_wp2
              go_ret2
              exact ⟨_, by first | rfl | (simp [errW_none, errW_some] <;> rfl) | (simp [*, errW_none, errW_some] <;> rfl), by (with_reducible repeat (first | apply Kd.R_alloc | apply Kd.R_drewN | apply Kd.R_drew)); exact Kd.R_mono HO_5.out (fun _ hk => trivial), by repeat (first | (with_reducible first | exact HB.out | apply below_alloc | apply pw_below_drewN | apply below_drew1 | refine below_set ?_ (IsS40.ge HI156.out)) | exact HB.out)⟩
            · rw [if_neg c35] at H
              exact absurd H (by simp)
          · rw [if_neg c34] at H
            exact absurd H (by simp)

/-! ### slices_Clone_int_int: function 17 -/
def layClone_ren : Go.Shelf.Ren := ⟨fun | 15 => 17 | n => n, fun | 22 => 23 | 3 => 3 | 4 => 4 | n => n, fun | n => n⟩
theorem layClone : Go.Proofs.Lays2.n15 Try.prog layClone_ren where
  mixed := by kernel_rfl
  f15 := Try.func17.trans (congrArg some (by kernel_rfl))
  t3 := Try.underlying3
  a3 := Try.isAgg3
  z3 := Try.sizeOf3
  v3 := Try.zeroValue3
  t4 := Try.underlying4
  a4 := Try.isAgg4
  z4 := Try.sizeOf4
  v4 := Try.zeroValue4
  t22 := Try.underlying23
  a22 := Try.isAgg23
  z22 := Try.sizeOf23
  v22 := Try.zeroValue23
  i3 := by kernel_rfl

def slices_Clone_int_int.f (l0 : List Int) : Option (List Int) := if l0.length ≤ 17592186044416 then some l0 else none
theorem slices_Clone_int_int.calls (A0 : Option Addr) (c0 : Nat) (l0 : List Int) (r : List Int) (w : World) (hr0 : Kd.C (Kd.int .i64) w A0 l0.length l0) (hc0 : l0.length ≤ c0) (h : slices_Clone_int_int.f l0 = some r) :
    Calls Try.prog 17 #[.slice A0 l0.length c0] w fun e w' => ∃ v0_, e = .returned v0_ ∧ Kd.R (Kd.int .i64) 3 w' w.heap.size (fun _ => True) v0_ r ∧ Below w.heap.size w w' := by
  unfold slices_Clone_int_int.f at h
  by_cases hl : l0.length ≤ 17592186044416
  · rw [if_pos hl] at h
    obtain rfl := Option.some.inj h
    cases A0 with
    | none =>
      have h0 : l0 = [] := by
        have h1 := hr0.2.2
        cases l0 with
        | nil => rfl
        | cons x t =>
          obtain ⟨ad, he, _⟩ := h1 (Nat.succ_pos _)
          cases he
      subst h0
      refine (Any.slices_Clone_int_nil layClone 0 c0 w).mono ?_
      rintro e w' ⟨rfl, rfl⟩
      exact ⟨_, rfl, Kd.R_nil _ _ _ _ _, Below.refl _ _⟩
    | some a =>
      by_cases h0 : l0 = []
      · subst h0
        refine (Any.slices_Clone_int_zero layClone a c0 w).mono ?_
        rintro e w' ⟨v, rfl, ho, _, hb⟩
        exact ⟨v, rfl, Kd.R_of_own ho (fun _ _ => trivial), hb⟩
      · have hp : 0 < l0.length := List.length_pos_iff.2 h0
        obtain ⟨ad, he, hc⟩ := hr0.2.2 hp
        injection he with he
        subst he
        have hcell : ∀ j, j < l0.length → w.cell? (a.add j) = some (.int .i64 (l0.getD j 0)) := fun j hj => by
          obtain ⟨c, _, hK, hcc⟩ := hc j _ (List.getElem?_eq_getElem hj)
          have hK' : c = [.int .i64 l0[j]] := hK
          subst hK'
          have h3 : w.cell? (a.add (j * 1 + 0)) = some (.int .i64 l0[j]) := hcc 0 _ rfl
          rw [Nat.mul_one, Nat.add_zero] at h3
          rw [h3]
          simp [List.getElem?_eq_getElem hj]
        obtain ⟨b, off, x⟩ := a
        have hx : x = none := by
          have h4 : w.cell? ⟨b, off, x⟩ = _ := hcell 0 hp
          cases x with
          | none => rfl
          | some q =>
            unfold World.cell? at h4
            split at h4
            · simp at h4
            · cases h4
        subst hx
        refine (Any.slices_Clone_int layClone b off l0.length c0 l0 w (Nat.le_refl _) (by omega) (fun j hj => ?_)).mono ?_
        · have h5 := hcell j hj
          by_cases hj0 : j = 0
          · subst hj0
            exact h5
          · simpa [Addr.add, hj0] using h5
        · rintro e w' ⟨v, rfl, ho, _, hb⟩
          rw [List.take_length] at ho
          exact ⟨v, rfl, Kd.R_of_own ho (fun _ _ => trivial), hb⟩
  · rw [if_neg hl] at h
    cases h


/-! ### slices_Sort_int_int: function 18 -/
def laySort_ren : Go.Shelf.Ren := ⟨fun | 189 => 18 | 125 => 31 | 257 => 30 | 128 => 58 | 129 => 59 | 294 => 49 | 295 => 50 | 296 => 51 | 297 => 52 | 298 => 53 | 299 => 54 | 216 => 55 | 300 => 56 | 301 => 57 | 328 => 76 | 329 => 77 | 330 => 78 | 331 => 79 | 332 => 80 | 215 => 81 | 343 => 92 | n => n, fun | 28 => 23 | 3 => 3 | 46 => 61 | 0 => 0 | 51 => 86 | 53 => 38 | 4 => 4 | 183 => 79 | 182 => 78 | 131 => 26 | 5 => 5 | 9 => 9 | 218 => 98 | 222 => 102 | 228 => 107 | 229 => 108 | n => n, fun | n => n⟩
theorem laySort : Go.Proofs.Lays.n189 Try.prog laySort_ren where
  mixed := by kernel_rfl
  f125 := Try.func31.trans (congrArg some (by kernel_rfl))
  f128 := Try.func58.trans (congrArg some (by kernel_rfl))
  f129 := Try.func59.trans (congrArg some (by kernel_rfl))
  f189 := Try.func18.trans (congrArg some (by kernel_rfl))
  f215 := Try.func81.trans (congrArg some (by kernel_rfl))
  f216 := Try.func55.trans (congrArg some (by kernel_rfl))
  f257 := Try.func30.trans (congrArg some (by kernel_rfl))
  f294 := Try.func49.trans (congrArg some (by kernel_rfl))
  f295 := Try.func50.trans (congrArg some (by kernel_rfl))
  f296 := Try.func51.trans (congrArg some (by kernel_rfl))
  f297 := Try.func52.trans (congrArg some (by kernel_rfl))
  f298 := Try.func53.trans (congrArg some (by kernel_rfl))
  f299 := Try.func54.trans (congrArg some (by kernel_rfl))
  f300 := Try.func56.trans (congrArg some (by kernel_rfl))
  f301 := Try.func57.trans (congrArg some (by kernel_rfl))
  f328 := Try.func76.trans (congrArg some (by kernel_rfl))
  f329 := Try.func77.trans (congrArg some (by kernel_rfl))
  f330 := Try.func78.trans (congrArg some (by kernel_rfl))
  f331 := Try.func79.trans (congrArg some (by kernel_rfl))
  f332 := Try.func80.trans (congrArg some (by kernel_rfl))
  f343 := Try.func92.trans (congrArg some (by kernel_rfl))
  t0 := Try.underlying0
  a0 := Try.isAgg0
  z0 := Try.sizeOf0
  v0 := Try.zeroValue0
  t3 := Try.underlying3
  a3 := Try.isAgg3
  z3 := Try.sizeOf3
  v3 := Try.zeroValue3
  t4 := Try.underlying4
  a4 := Try.isAgg4
  z4 := Try.sizeOf4
  v4 := Try.zeroValue4
  t5 := Try.underlying5
  a5 := Try.isAgg5
  z5 := Try.sizeOf5
  v5 := Try.zeroValue5
  t9 := Try.underlying9
  a9 := Try.isAgg9
  z9 := Try.sizeOf9
  v9 := Try.zeroValue9
  t28 := Try.underlying23
  a28 := Try.isAgg23
  z28 := Try.sizeOf23
  v28 := Try.zeroValue23
  t46 := Try.underlying61
  a46 := Try.isAgg61
  z46 := Try.sizeOf61
  v46 := Try.zeroValue61
  t51 := Try.underlying86
  a51 := Try.isAgg86
  z51 := Try.sizeOf86
  v51 := Try.zeroValue86
  t53 := Try.underlying38
  a53 := Try.isAgg38
  z53 := Try.sizeOf38
  v53 := Try.zeroValue38
  t131 := Try.underlying26
  a131 := Try.isAgg26
  z131 := Try.sizeOf26
  v131 := Try.zeroValue26
  t182 := Try.underlying78
  a182 := Try.isAgg78
  z182 := Try.sizeOf78
  v182 := Try.zeroValue78
  t183 := Try.underlying79
  a183 := Try.isAgg79
  z183 := Try.sizeOf79
  v183 := Try.zeroValue79
  t218 := Try.underlying98
  a218 := Try.isAgg98
  z218 := Try.sizeOf98
  v218 := Try.zeroValue98
  t222 := Try.underlying102
  a222 := Try.isAgg102
  z222 := Try.sizeOf102
  v222 := Try.zeroValue102
  t228 := Try.underlying107
  a228 := Try.isAgg107
  z228 := Try.sizeOf107
  v228 := Try.zeroValue107
  t229 := Try.underlying108
  a229 := Try.isAgg108
  z229 := Try.sizeOf108
  v229 := Try.zeroValue108

def slices_Sort_int_int.f (l0 : List Int) : Option (List Int) := if l0.length < 4611686018427387904 then some (l0.mergeSort fun x y => decide (x ≤ y)) else none
theorem slices_Sort_int_int.calls (P0_ : Nat → Prop) (u9000_ : Value) (l0 : List Int) (r1 : List Int) (w0 w : World) (hB : Below w0.heap.size w0 w) (ho0 : Kd.R (Kd.int .i64) 3 w w0.heap.size P0_ u9000_ l0) (h : slices_Sort_int_int.f l0 = some r1) :
    Calls Try.prog 18 #[u9000_] w fun e w' => e = .returned (.tuple #[]) ∧ Kd.R (Kd.int .i64) 3 w' w0.heap.size (fun k_ => (P0_ k_ ∨ w.heap.size ≤ k_)) u9000_ r1 ∧ Below w0.heap.size w0 w' ∧ Kept w w' (fun k_ => P0_ k_) := by
  unfold slices_Sort_int_int.f at h
  by_cases hl : l0.length < 4611686018427387904
  · rw [if_pos hl] at h
    obtain rfl := Option.some.inj h
    have hown := Kd.own_of_R ho0
    have hok := ho0.1
    have hlen : (l0.mergeSort fun x y => decide (x ≤ y)).length = l0.length := List.length_mergeSort _
    rcases hown.2 with ⟨rfl, h0⟩ | ⟨g, cap, cur, rfl, hg, hb, h1, h2, h3, h4⟩
    · have h0' : l0 = [] := List.length_eq_zero_iff.1 h0
      subst h0'
      refine (Any.slices_Sort_int_none laySort none 0 w).mono ?_
      rintro e w' ⟨rfl, rfl⟩
      exact ⟨rfl, Kd.R_mono (by simpa using ho0) (fun k hk => .inl hk), hB, Kept.refl _ _⟩
    · have hlt : g < w.heap.size := (Array.getElem?_eq_some_iff.1 hb).1
      refine (Any.slices_Sort_int laySort g 0 cap l0 w (holds_of_blockI hb (by rw [Nat.mul_one] at h4; exact h4)) hlt hl).mono ?_
      rintro e w' ⟨rfl, n, os, rfl⟩
      refine ⟨rfl, Kd.R_of_own ?_ (fun k hk => .inl (hok k hk)), ?_, ?_⟩
      · rw [hlen]
        exact ownsRow_sortedI hlen hg hb h1 h2 h3
      · exact pw_below_grown hB (some g) hB.size (grownBy_sortedI _) (fun k hk => by injection hk with hk; omega)
      · exact Kept.of_grown (grownBy_sortedI _) (Kept.refl _ _) (fun k hk => .inl (hok k (by injection hk with hk; subst hk; rfl)))
  · rw [if_neg hl] at h
    cases h


end Go.Proofs.Ytcfcnnamjfgahaa.PFnQuantiles
