-- Made by a program of this session (wip/myprint.py) out of Lean's print of the loaded functions. Not trusted: Lean checks it.
import Derived.Test.YthlinnbamejmaaaPFnDatesx0
import Derived.Test.YthlinnbamejmaaaPFnDatesx4
namespace Go.Proofs.Ythlinnbamejmaaa.PFnDates
open Go.RowKit Go.Proofs.YthlinnbamejmaaaW.PrintWords Go.Proofs.YthlinnbamejmaaaW.PrintLast Go.Proofs.YthlinnbamejmaaaW.PrintMore
attribute [local go_sem] max2_int min2_int max_two min_two max_three min_three max_four min_four   -- for this text's walks alone
set_option linter.unusedVariables false
set_option linter.unusedSimpArgs false

/-! ### spec_DrawDateOf: function 21 -/
def spec_DrawDateOf.f (k : Nat) (l0 : List Int) : Option (Int × Int) := (spec_l1Cur_day.f k l0 0 0).bind fun bt174 => ((some (([bt174.1, (-1), 1000000000000, 1000000000001] : List Int) : List Int)).bind fun y177 => ((spec_l1Cur_rare.f l0 bt174.2.1 bt174.2.2 4).bind fun bt180 => (if 0 ≤ bt180.1 then (if bt180.1 < (y177.length : Int) then ((spec_l1Cur_pick.f l0 bt180.2.1 bt180.2.2 2881).bind fun bt184 => ((some (([wrap64 (bt184.1 - 1440), (-1441), 1441] : List Int) : List Int)).bind fun y187 => ((spec_l1Cur_rare.f l0 bt184.2.1 bt184.2.2 3).bind fun bt190 => (if 0 ≤ bt190.1 then (if bt190.1 < (y187.length : Int) then (some (rd y177 bt180.1, rd y187 bt190.1)) else (none)) else (none))))) else (none)) else (none))))
theorem spec_DrawDateOf.mono : ∀ a0 k, LeO (spec_DrawDateOf.f k a0) (spec_DrawDateOf.f (k + 1) a0) := by
  intro a0 k
  unfold spec_DrawDateOf.f
  repeat' first
      | (with_reducible exact spec_l1Cur_day.mono _ _ _ _)
      | (with_reducible exact LeO.refl _)
      | (with_reducible exact LeO.none _)
      | (with_reducible refine LeO.ite ?_ ?_)
      | (with_reducible refine LeO.bind ?_ (fun _ => ?_))
      | exact spec_l1Cur_day.mono _ _ _ _
      | exact LeO.none _
      | refine LeO.ite ?_ ?_
      | refine LeO.bind ?_ (fun _ => ?_)
def spec_DrawDateOf.T2 : Bool × List (List Nat × List Nat) := (true, [([], []), ([0], [0]), ([1], [1]), ([], []), ([3, 1], [3]), ([2, 4], [2, 4]), ([5], [5]), ([], []), ([7, 4], [7]), ([8], [8]), ([9], [9]), ([], []), ([11, 8], [11]), ([10, 12], [10, 12]), ([13], [13]), ([6, 12, 0, 1, 2, 3, 4, 5, 6], [6]), ([14, 15, 0, 1, 2, 3, 4, 5, 6, 7, 8, 9, 10, 11, 12, 13, 14, 15], [14])])
def spec_DrawDateOf.B2 : List Nat := [0, 1, 3, 0, 11, 31, 63, 0, 155, 411, 923, 0, 2459, 8091, 16283, 6655, 65535]
theorem spec_DrawDateOf.tab2 : rtab .any (opsOf Try.f21 2) = spec_DrawDateOf.T2 := by kernel_rfl
theorem spec_DrawDateOf.bits2 : waitsOk spec_DrawDateOf.T2.2 spec_DrawDateOf.B2 = true := by kernel_rfl
set_option maxHeartbeats 8000000 in
set_option maxRecDepth 100000 in
theorem spec_DrawDateOf.calls (k : Nat) (A0 : Option Addr) (c0 : Nat) (l0 : List Int) (r1 : Int) (r2 : Int) (w : World) (hr0 : Kd.C (Kd.int .u8) w A0 l0.length l0) (hc0 : l0.length ≤ c0) (h : spec_DrawDateOf.f k l0 = some (r1, r2)) :
    Calls Try.prog 21 #[.slice A0 l0.length c0] w fun e w' => e = .returned (.tuple #[.int .i64 r1, .int .i64 r2]) ∧ Below w.heap.size w w' := by
  have hu68 := Try.underlying68
  have HR0 := Aside0.mk hr0
  have HC0 := Aside0.mk hc0
  clear hr0 hc0
  have HB := Aside0.mk (Below.refl w.heap.size w)
  have H : ((spec_l1Cur_day.f k l0 0 0).bind fun bt174 => ((some (([bt174.1, (-1), 1000000000000, 1000000000001] : List Int) : List Int)).bind fun y177 => ((spec_l1Cur_rare.f l0 bt174.2.1 bt174.2.2 4).bind fun bt180 => (if 0 ≤ bt180.1 then (if bt180.1 < (y177.length : Int) then ((spec_l1Cur_pick.f l0 bt180.2.1 bt180.2.2 2881).bind fun bt184 => ((some (([wrap64 (bt184.1 - 1440), (-1441), 1441] : List Int) : List Int)).bind fun y187 => ((spec_l1Cur_rare.f l0 bt184.2.1 bt184.2.2 3).bind fun bt190 => (if 0 ≤ bt190.1 then (if bt190.1 < (y187.length : Int) then (some (rd y177 bt180.1, rd y187 bt190.1)) else (none)) else (none))))) else (none)) else (none))))) = some (r1, r2) := h
  clear h
  replace H := Option.bind_eq_some_iff.mp H
  obtain ⟨⟨t174, t175, t176⟩, A20, H⟩ := H
  replace H : ((some (([t174, (-1), 1000000000000, 1000000000001] : List Int) : List Int)).bind fun y177 => ((spec_l1Cur_rare.f l0 t175 t176 4).bind fun bt180 => (if 0 ≤ bt180.1 then (if bt180.1 < (y177.length : Int) then ((spec_l1Cur_pick.f l0 bt180.2.1 bt180.2.2 2881).bind fun bt184 => ((some (([wrap64 (bt184.1 - 1440), (-1441), 1441] : List Int) : List Int)).bind fun y187 => ((spec_l1Cur_rare.f l0 bt184.2.1 bt184.2.2 3).bind fun bt190 => (if 0 ≤ bt190.1 then (if bt190.1 < (y187.length : Int) then (some (rd y177 bt180.1, rd y187 bt190.1)) else (none)) else (none))))) else (none)) else (none)))) = some (r1, r2) := H
  have A2 := Aside0.mk A20
  clear A20
  obtain ⟨y177, hy177⟩ : ∃ y_ : List Int, y_ = (([t174, (-1), 1000000000000, 1000000000001] : List Int)) := ⟨_, rfl⟩
  replace H : ((spec_l1Cur_rare.f l0 t175 t176 4).bind fun bt180 => (if 0 ≤ bt180.1 then (if bt180.1 < (y177.length : Int) then ((spec_l1Cur_pick.f l0 bt180.2.1 bt180.2.2 2881).bind fun bt184 => ((some (([wrap64 (bt184.1 - 1440), (-1441), 1441] : List Int) : List Int)).bind fun y187 => ((spec_l1Cur_rare.f l0 bt184.2.1 bt184.2.2 3).bind fun bt190 => (if 0 ≤ bt190.1 then (if bt190.1 < (y187.length : Int) then (some (rd y177 bt180.1, rd y187 bt190.1)) else (none)) else (none))))) else (none)) else (none))) = some (r1, r2) := by first | (rw [hy177]; with_reducible exact H) | (have H2_ := (Option.bind_some _ _).symm.trans H; rw [hy177]; with_reducible exact H2_) | (have H2_ := (Option.bind_some _ _).symm.trans H; with_reducible exact H2_) | with_reducible exact H | (rw [hy177]; exact H) | exact H
  have Ny177 := Aside0.mk hy177
  clear hy177
  replace H := Option.bind_eq_some_iff.mp H
  obtain ⟨⟨t180, t181, t182⟩, A30, H⟩ := H
  replace H : (if 0 ≤ t180 then (if t180 < (y177.length : Int) then ((spec_l1Cur_pick.f l0 t181 t182 2881).bind fun bt184 => ((some (([wrap64 (bt184.1 - 1440), (-1441), 1441] : List Int) : List Int)).bind fun y187 => ((spec_l1Cur_rare.f l0 bt184.2.1 bt184.2.2 3).bind fun bt190 => (if 0 ≤ bt190.1 then (if bt190.1 < (y187.length : Int) then (some (rd y177 t180, rd y187 bt190.1)) else (none)) else (none))))) else (none)) else (none)) = some (r1, r2) := H
  have A3 := Aside0.mk A30
  clear A30
  by_cases c4 : 0 ≤ t180
  · rw [if_pos c4] at H
    have c4b0 : decide (0 ≤ t180) = true := decide_eq_true c4
    clear c4
    by_cases c5 : t180 < (y177.length : Int)
    · rw [if_pos c5] at H
      have c5b0 : decide (t180 < (y177.length : Int)) = true := decide_eq_true c5
      clear c5
      replace H := Option.bind_eq_some_iff.mp H
      obtain ⟨⟨t184, t185, t186⟩, A60, H⟩ := H
      replace H : ((some (([wrap64 (t184 - 1440), (-1441), 1441] : List Int) : List Int)).bind fun y187 => ((spec_l1Cur_rare.f l0 t185 t186 3).bind fun bt190 => (if 0 ≤ bt190.1 then (if bt190.1 < (y187.length : Int) then (some (rd y177 t180, rd y187 bt190.1)) else (none)) else (none)))) = some (r1, r2) := H
      have A6 := Aside0.mk A60
      clear A60
      obtain ⟨y187, hy187⟩ : ∃ y_ : List Int, y_ = (([wrap64 (t184 - 1440), (-1441), 1441] : List Int)) := ⟨_, rfl⟩
      replace H : ((spec_l1Cur_rare.f l0 t185 t186 3).bind fun bt190 => (if 0 ≤ bt190.1 then (if bt190.1 < (y187.length : Int) then (some (rd y177 t180, rd y187 bt190.1)) else (none)) else (none))) = some (r1, r2) := by first | (rw [hy187]; with_reducible exact H) | (have H2_ := (Option.bind_some _ _).symm.trans H; rw [hy187]; with_reducible exact H2_) | (have H2_ := (Option.bind_some _ _).symm.trans H; with_reducible exact H2_) | with_reducible exact H | (rw [hy187]; exact H) | exact H
      have Ny187 := Aside0.mk hy187
      clear hy187
      replace H := Option.bind_eq_some_iff.mp H
      obtain ⟨⟨t190, t191, t192⟩, A70, H⟩ := H
      replace H : (if 0 ≤ t190 then (if t190 < (y187.length : Int) then (some (rd y177 t180, rd y187 t190)) else (none)) else (none)) = some (r1, r2) := H
      have A7 := Aside0.mk A70
      clear A70
      by_cases c8 : 0 ≤ t190
      · rw [if_pos c8] at H
        have c8b0 : decide (0 ≤ t190) = true := decide_eq_true c8
        clear c8
        by_cases c9 : t190 < (y187.length : Int)
        · rw [if_pos c9] at H
          have c9b0 : decide (t190 < (y187.length : Int)) = true := decide_eq_true c9
          clear c9
          simp only [Option.some.injEq, Prod.mk.injEq] at H
          obtain ⟨rfl, rfl⟩ := H
          go_enter Try.func21, Try.ntmps21
          try go_wp2_with (first | ((with_reducible refine gate_dst (N := 7) rfl ?_); refine box_event ?hg (N := 7) ?hd (cs := #[.slice A0 l0.length c0, .int .i64 0, .int .u64 0]) (t := 68) ?hr ?_; (case hd => rfl); (case hg => rfl); (case hr => first | (go_simp; done) | (go_simp; rfl)); intro gb173 hg w10 hbox hb; have n0_ := Aside0.mk (below_step (by repeat (first | (with_reducible first | exact HB.out | apply below_alloc | apply pw_below_drewN | apply below_drew1) | exact HB.out)) hb); have n1_ := Aside0.mk ((show IsS68 w w10 gb173 l0 0 0 from ⟨_, _, hbox, (by rw [hg]; exact (below_size (by repeat (first | (with_reducible first | exact HB.out | apply below_alloc | apply pw_below_drewN | apply below_drew1) | exact HB.out)))), HR0.out⟩)); clear HB; have HB := n0_; have HI173 := n1_; clear n0_ n1_; (try clear hbox); (try clear hg); (try clear hb)))
          have pi183 : (0 ≤ (t180 : Int)) = True := eq_true (of_decide_eq_true (by first | (with_reducible assumption) | assumption))
          have qi183 : (t180 < (y177.length : Int)) = True := eq_true (of_decide_eq_true (by first | (with_reducible assumption) | assumption))
          have pi193 : (0 ≤ (t190 : Int)) = True := eq_true (of_decide_eq_true (by first | (with_reducible assumption) | assumption))
          have qi193 : (t190 < (y187.length : Int)) = True := eq_true (of_decide_eq_true (by first | (with_reducible assumption) | assumption))
          have n0_ := Aside0.mk (IsS68.drew HI173.out)
          have n1_ := Aside0.mk (below_drew1 HB.out)
          clear HI173
          clear HB
          have HI173 := n0_
          have HB := n1_
          clear n0_ n1_
          refine start_ (n := 17) (S := fun w' => True) (ds := []) #[false, false, false, false, false, false, false, false, false, false, false, false, false, false, false, false, false] (by kernel_rfl) rfl rfl trivial (fun hHeld => ?_); refine with_tabW spec_DrawDateOf.tab2 spec_DrawDateOf.bits2 (fun HT_ HW_ => ?_)
          generalize w10.drew = w11 at HI173 HB hHeld ⊢
          refine pure_ (i := 0) (N := some 8) (v := ?_) (a' := ?_) #[true, false, false, false, false, false, false, false, false, false, false, false, false, false, false, false, false] rfl rfl (any_of HT_.out (by kernel_rfl)) (fun _ _ _ h => h) (Or.inl ⟨by rfl, ?_⟩) ?_ ?_
          rotate_left
          · intro w'
            go_simp
            with_reducible rfl
          rotate_left
          · simp only [Act.put, List.setIfInBounds_toArray, List.set_cons_zero, List.set_cons_succ, i64_w, i32_w]
            rfl
          refine pure_ (i := 3) (N := some 11) (v := ?_) (a' := ?_) #[true, false, false, true, false, false, false, false, false, false, false, false, false, false, false, false, false] rfl rfl (any_of HT_.out (by kernel_rfl)) (fun _ _ _ h => h) (Or.inl ⟨by rfl, ?_⟩) ?_ ?_
          rotate_left
          · intro w'
            go_simp
            with_reducible rfl
          rotate_left
          · simp only [Act.put, List.setIfInBounds_toArray, List.set_cons_zero, List.set_cons_succ, i64_w, i32_w]
            rfl
          refine pure_ (i := 7) (N := some 15) (v := ?_) (a' := ?_) #[true, false, false, true, false, false, false, true, false, false, false, false, false, false, false, false, false] rfl rfl (any_of HT_.out (by kernel_rfl)) (fun _ _ _ h => h) (Or.inl ⟨by rfl, ?_⟩) ?_ ?_
          rotate_left
          · intro w'
            go_simp
            with_reducible rfl
          rotate_left
          · simp only [Act.put, List.setIfInBounds_toArray, List.set_cons_zero, List.set_cons_succ, i64_w, i32_w]
            rfl
          refine pure_ (i := 11) (N := some 19) (v := ?_) (a' := ?_) #[true, false, false, true, false, false, false, true, false, false, false, true, false, false, false, false, false] rfl rfl (any_of HT_.out (by kernel_rfl)) (fun _ _ _ h => h) (Or.inl ⟨by rfl, ?_⟩) ?_ ?_
          rotate_left
          · intro w'
            go_simp
            with_reducible rfl
          rotate_left
          · simp only [Act.put, List.setIfInBounds_toArray, List.set_cons_zero, List.set_cons_succ, i64_w, i32_w]
            rfl
          refine inv_at [1, 2, 4, 5, 6, 8, 9, 10, 12, 13, 14, 15, 16] (fun a0_ b a w' => ∃ (v178 : Value) (adz_v178 : Addr) (v188 : Value) (adz_v188 : Addr) (m5_ : Value) (m13_ : Value), a = putSel a0_ b [(1, 9, .int .i64 t174), (2, 10, v178), (4, 12, .int .i64 t180), (5, 13, m5_), (6, 14, .int .i64 (rd y177 t180)), (8, 16, .int .i64 t184), (9, 17, .int .i64 (wrap64 (t184 - 1440))), (10, 18, v188), (12, 20, .int .i64 t190), (13, 21, m13_), (14, 22, .int .i64 (rd y187 t190)), (15, 2, .int .i64 (rd y177 t180)), (16, 3, .int .i64 (rd y187 t190))] ∧ (b 1 = false → IsS68 w w' gb173 l0 0 0) ∧ (Below w.heap.size w w') ∧ (b 1 = true → b 4 = false → IsS68 w w' gb173 l0 t175 t176) ∧ (b 2 = true → Kd.R (Kd.int .i64) 3 w' w.heap.size (fun _ => True) v178 y177) ∧ (b 2 = true → ∃ c_, (v178 : Value) = .slice (some adz_v178) y177.length c_) ∧ (b 4 = true → b 8 = false → IsS68 w w' gb173 l0 t181 t182) ∧ (b 8 = true → b 12 = false → IsS68 w w' gb173 l0 t185 t186) ∧ (b 10 = true → Kd.R (Kd.int .i64) 3 w' w.heap.size (fun _ => True) v188 y187) ∧ (b 10 = true → ∃ c_, (v188 : Value) = .slice (some adz_v188) y187.length c_) ∧ (b 12 = true → IsS68 w w' gb173 l0 t191 t192) ∧ (b 5 = true → (m5_ : Value) = .pointer (some (adz_v178.add (t180).toNat))) ∧ (b 13 = true → (m13_ : Value) = .pointer (some (adz_v188.add (t190).toNat)))) HT_.out HW_.out (by kernel_rfl) (by kernel_rfl) ?_ ?_ ?_
          · exact ⟨.bool false, ⟨0, 0, none⟩, .bool false, ⟨0, 0, none⟩, .bool false, .bool false, by simp only [putSel, Bool.false_eq_true, if_false], fun _ => HI173.out, HB.out, fun h_ => absurd h_ (by decide), fun h_ => absurd h_ (by decide), fun h_ => absurd h_ (by decide), fun h_ => absurd h_ (by decide), fun h_ => absurd h_ (by decide), fun h_ => absurd h_ (by decide), fun h_ => absurd h_ (by decide), fun h_ => absurd h_ (by decide), fun h_ => absurd h_ (by decide), fun h_ => absurd h_ (by decide)⟩
          · skip
            clear HB HI173
            refine steps_cons ?_ ?_
            · rintro b a w' ⟨v178, adz_v178, v188, adz_v188, m5_, m13_, ha, Q_HI173, Q_HB, Q_HI173_e1, Q_HO179, Q_HA_HO179, Q_HI173_e4, Q_HI173_e8, Q_HO189, Q_HA_HO189, Q_HI173_e12, Q_X5_, Q_X13_⟩ hb_ hon hoff
              refine ⟨_, rfl, fun K hK => ?_⟩
              have e8 : a.tmps[8]? = some (.pointer (some ⟨gb173, 0, none⟩)) := by rw [ha]; exact (putSel_off rfl).trans rfl
              replace ha := Aside0.mk ha
              have HI173 := Aside0.mk (Q_HI173 hb_)
              have HB := Aside0.mk Q_HB
              refine goes_ Try.func41 (by kernel_rfl) rfl #[.pointer (some ⟨gb173, 0, none⟩)] (by rfl) rfl rfl (by first | (simp only [List.map_toArray, List.map_cons, List.map_nil, Act.eval, Array.getD_eq_getD_getElem?, Option.getD_some, e8]; done) | (simp only [List.map_toArray, List.map_cons, List.map_nil, Act.eval, Array.getD_eq_getD_getElem?, Option.getD_some, e8]; rfl)) ?_
              with_reducible refine (spec_l1Cur_day.calls k gb173 l0 0 0 t174 t175 t176 w _ ?side1 ?side2 A2.out).mono ?_
              (case side1 => repeat (first | (with_reducible first | exact HI173.out | apply IsS68.alloc | apply IsS68.drewN | apply IsS68.drew | apply IsS68.set_1 | apply IsS68.set_2) | exact HI173.out))
              (case side2 => repeat (first | (with_reducible first | exact HB.out | apply below_alloc | apply pw_below_drewN | apply below_drew1 | refine below_set ?_ (IsS68.ge HI173.out)) | exact HB.out))
              rintro e w12 ⟨rfl, hi, hb, hk⟩
              refine ⟨_, rfl, ?_⟩
              have n0_ := Aside0.mk (hb)
              have n1_ := Aside0.mk (hi)
              clear HB
              clear HI173
              have HB := n0_
              have HI173 := n1_
              clear n0_ n1_
              (try clear hb)
              (try clear hb2)
              (try clear hk)
              (try clear hi)
              refine hK.out _ _ ⟨v178, adz_v178, v188, adz_v188, m5_, m13_, (by rw [ha.out]; exact putSel_upk 0 hb_ rfl rfl rfl), fun h0_ => absurd ((up_self b 1).symm.trans h0_) (by decide), (by repeat (first | (with_reducible first | exact HB.out | apply below_alloc | apply pw_below_drewN | apply below_drew1 | refine below_set ?_ (IsS68.ge HI173.out)) | exact HB.out)), fun _ _ => (by repeat (first | (with_reducible first | exact HI173.out | apply IsS68.alloc | apply IsS68.drewN | apply IsS68.drew | apply IsS68.set_1 | apply IsS68.set_2) | exact HI173.out)), fun h0_ => absurd ((hoff 2 (by kernel_rfl)).symm.trans h0_) (by decide), fun h0_ => absurd ((hoff 2 (by kernel_rfl)).symm.trans h0_) (by decide), fun h0_ _ => absurd ((hoff 4 (by kernel_rfl)).symm.trans h0_) (by decide), fun h0_ _ => absurd ((hoff 8 (by kernel_rfl)).symm.trans h0_) (by decide), fun h0_ => absurd ((hoff 10 (by kernel_rfl)).symm.trans h0_) (by decide), fun h0_ => absurd ((hoff 10 (by kernel_rfl)).symm.trans h0_) (by decide), fun h0_ => absurd ((hoff 12 (by kernel_rfl)).symm.trans h0_) (by decide), fun h0_ => absurd ((hoff 5 (by kernel_rfl)).symm.trans h0_) (by decide), fun h0_ => absurd ((hoff 13 (by kernel_rfl)).symm.trans h0_) (by decide)⟩
            refine steps_cons ?_ ?_
            · rintro b a w' ⟨v178, adz_v178, v188, adz_v188, m5_, m13_, ha, Q_HI173, Q_HB, Q_HI173_e1, Q_HO179, Q_HA_HO179, Q_HI173_e4, Q_HI173_e8, Q_HO189, Q_HA_HO189, Q_HI173_e12, Q_X5_, Q_X13_⟩ hb_ hon hoff
              refine ⟨_, rfl, fun K hK => ?_⟩
              have e9 : a.tmps[9]? = some (.int .i64 t174) := by rw [ha]; exact putSel_on (e := (1, 9, .int .i64 t174)) 0 rfl rfl (hon 1 (by kernel_rfl)) rfl
              replace ha := Aside0.mk ha
              have HB := Aside0.mk Q_HB
              refine Kd.R_lit_step (Kd.int .i64) _ 3 ?hg (N := 10) ?hd (xs := ([t174, (-1), 1000000000000, 1000000000001] : List Int)) (inner := [.int .i64 t174, .int .i64 (-1), .int .i64 1000000000000, .int .i64 1000000000001]) (ok := fun _ => True) (okp := fun _ => True) ?hr ?hp (fun _ hk => hk) trivial (Below.refl _ _) (Nat.le_refl _) (by simp) ?_; (case hd => rfl); (case hg => rfl); (case hr => first | (go_simp; done) | (go_simp; rfl)); (case hp => exact (Reps.one (show Kd.M (Kd.int .i64) _ _ _ t174 [.int .i64 t174] from rfl) (Reps.one (show Kd.M (Kd.int .i64) _ _ _ (-1) [.int .i64 (-1)] from rfl) (Reps.one (show Kd.M (Kd.int .i64) _ _ _ 1000000000000 [.int .i64 1000000000000] from rfl) (Reps.one (show Kd.M (Kd.int .i64) _ _ _ 1000000000001 [.int .i64 1000000000001] from rfl) (Reps.none _ _))))))
              intro v178 w14 ho15 hb hg_ hnew_
              clear hg_ hnew_
              (first | rw [← Ny177.out] at ho15 | (simp only [Int.reduceToNat] at ho15; rw [← Ny177.out] at ho15))
              have n0_ := Aside0.mk (Kd.R_lower ho15 (below_size (by repeat (first | (with_reducible first | exact HB.out | apply below_alloc | apply pw_below_drewN | apply below_drew1) | exact HB.out))))
              have n2_ := Aside0.mk (below_step (by repeat (first | (with_reducible first | exact HB.out | apply below_alloc | apply pw_below_drewN | apply below_drew1) | exact HB.out)) hb)
              have z_HI173_e1 := fun (h0_ : b 1 = true) (h1_ : b 4 = false) => (show IsS68 w w14 gb173 l0 t175 t176 from by first | exact (IsS68.below (by repeat (first | (with_reducible first | exact (Q_HI173_e1 h0_ h1_) | apply IsS68.alloc | apply IsS68.drewN | apply IsS68.drew | apply IsS68.set_1 | apply IsS68.set_2) | exact (Q_HI173_e1 h0_ h1_))) hb))
              have z_HI173_e4 := fun (h0_ : b 4 = true) (h1_ : b 8 = false) => (show IsS68 w w14 gb173 l0 t181 t182 from by first | exact (IsS68.below (by repeat (first | (with_reducible first | exact (Q_HI173_e4 h0_ h1_) | apply IsS68.alloc | apply IsS68.drewN | apply IsS68.drew | apply IsS68.set_1 | apply IsS68.set_2) | exact (Q_HI173_e4 h0_ h1_))) hb))
              have z_HI173_e8 := fun (h0_ : b 8 = true) (h1_ : b 12 = false) => (show IsS68 w w14 gb173 l0 t185 t186 from by first | exact (IsS68.below (by repeat (first | (with_reducible first | exact (Q_HI173_e8 h0_ h1_) | apply IsS68.alloc | apply IsS68.drewN | apply IsS68.drew | apply IsS68.set_1 | apply IsS68.set_2) | exact (Q_HI173_e8 h0_ h1_))) hb))
              have z_HO189 := fun (h0_ : b 10 = true) => (show Kd.R (Kd.int .i64) 3 w14 w.heap.size (fun _ => True) v188 y187 from by first | exact (Kd.R_elder' (by (with_reducible repeat (first | apply Kd.R_alloc | apply Kd.R_drewN | apply Kd.R_drew)); exact (Q_HO189 h0_)) (Kd.R_base ho15) hb) | exact Kd.R_mono (Kd.R_elder' (by (with_reducible repeat (first | apply Kd.R_alloc | apply Kd.R_drewN | apply Kd.R_drew)); exact (Q_HO189 h0_)) (Kd.R_base ho15) hb) (fun _ h_ => by first | trivial | exact h_ | exact h_.1))
              have z_HI173_e12 := fun (h0_ : b 12 = true) => (show IsS68 w w14 gb173 l0 t191 t192 from by first | exact (IsS68.below (by repeat (first | (with_reducible first | exact (Q_HI173_e12 h0_) | apply IsS68.alloc | apply IsS68.drewN | apply IsS68.drew | apply IsS68.set_1 | apply IsS68.set_2) | exact (Q_HI173_e12 h0_))) hb))
              clear HB
              have HO179 := n0_
              have HB := n2_
              clear n0_ n2_
              clear hb ho15
              obtain ⟨Ao16, co16, eo16⟩ := Kd.R_slice HO179.out
              subst eo16
              obtain ⟨ado16, fo16, _⟩ := Kd.at_int (Kd.R_reads' HO179.out).2.2 0 (by decide) (by rw [Ny177.out]; simp)
              cases fo16
              refine hK.out _ _ ⟨.slice (some ado16) y177.length co16, ado16, v188, adz_v188, m5_, m13_, (by rw [ha.out]; exact putSel_upk 1 hb_ rfl rfl rfl), fun h0_ => absurd ((hon 1 (by kernel_rfl)).symm.trans h0_) (by decide), (by repeat (first | (with_reducible first | exact HB.out | apply below_alloc | apply pw_below_drewN | apply below_drew1) | exact HB.out)), z_HI173_e1, fun _ => (by (with_reducible repeat (first | apply Kd.R_alloc | apply Kd.R_drewN | apply Kd.R_drew)); exact HO179.out), fun _ => ⟨_, rfl⟩, z_HI173_e4, z_HI173_e8, z_HO189, Q_HA_HO189, z_HI173_e12, fun h0_ => absurd ((hoff 5 (by kernel_rfl)).symm.trans h0_) (by decide), Q_X13_⟩
            refine steps_cons ?_ ?_
            · rintro b a w' ⟨v178, adz_v178, v188, adz_v188, m5_, m13_, ha, Q_HI173, Q_HB, Q_HI173_e1, Q_HO179, Q_HA_HO179, Q_HI173_e4, Q_HI173_e8, Q_HO189, Q_HA_HO189, Q_HI173_e12, Q_X5_, Q_X13_⟩ hb_ hon hoff
              refine ⟨_, rfl, fun K hK => ?_⟩
              have e11 : a.tmps[11]? = some (.pointer (some ⟨gb173, 0, none⟩)) := by rw [ha]; exact (putSel_off rfl).trans rfl
              replace ha := Aside0.mk ha
              have HB := Aside0.mk Q_HB
              have HI173 := Aside0.mk (Q_HI173_e1 (hon 1 (by kernel_rfl)) hb_)
              refine goes_ Try.func42 (by kernel_rfl) rfl #[.pointer (some ⟨gb173, 0, none⟩), .int .i64 4] (by rfl) rfl rfl (by first | (simp only [List.map_toArray, List.map_cons, List.map_nil, Act.eval, Array.getD_eq_getD_getElem?, Option.getD_some, e11]; done) | (simp only [List.map_toArray, List.map_cons, List.map_nil, Act.eval, Array.getD_eq_getD_getElem?, Option.getD_some, e11]; rfl)) ?_
              with_reducible refine (spec_l1Cur_rare.calls gb173 l0 t175 t176 4 t180 t181 t182 w _ ?side1 ?side2 A3.out).mono ?_
              (case side1 => repeat (first | (with_reducible first | exact HI173.out | apply IsS68.alloc | apply IsS68.drewN | apply IsS68.drew | apply IsS68.set_1 | apply IsS68.set_2) | exact HI173.out))
              (case side2 => repeat (first | (with_reducible first | exact HB.out | apply below_alloc | apply pw_below_drewN | apply below_drew1 | refine below_set ?_ (IsS68.ge HI173.out)) | exact HB.out))
              rintro e w14 ⟨rfl, hi, hb, hk⟩
              refine ⟨_, rfl, ?_⟩
              have n0_ := Aside0.mk (hb)
              have n1_ := Aside0.mk (hi)
              have z_HO179 := fun (h0_ : b 2 = true) => (show Kd.R (Kd.int .i64) 3 w14 w.heap.size (fun _ => True) v178 y177 from by first | exact (Kd.R_mono (Kd.R_keep (IsS68.apart (show IsS68 w _ gb173 l0 t175 t176 from by repeat (first | (with_reducible first | exact HI173.out | apply IsS68.alloc | apply IsS68.drewN | apply IsS68.drew | apply IsS68.set_1 | apply IsS68.set_2) | exact HI173.out)) (by (with_reducible repeat (first | apply Kd.R_alloc | apply Kd.R_drewN | apply Kd.R_drew)); exact (Q_HO179 h0_)) (by decide)) hk (fun _ h => h.2)) (fun _ h => h.1)) | exact Kd.R_mono (Kd.R_mono (Kd.R_keep (IsS68.apart (show IsS68 w _ gb173 l0 t175 t176 from by repeat (first | (with_reducible first | exact HI173.out | apply IsS68.alloc | apply IsS68.drewN | apply IsS68.drew | apply IsS68.set_1 | apply IsS68.set_2) | exact HI173.out)) (by (with_reducible repeat (first | apply Kd.R_alloc | apply Kd.R_drewN | apply Kd.R_drew)); exact (Q_HO179 h0_)) (by decide)) hk (fun _ h => h.2)) (fun _ h => h.1)) (fun _ h_ => by first | trivial | exact h_ | exact h_.1))
              clear HB
              clear HI173
              have HB := n0_
              have HI173 := n1_
              clear n0_ n1_
              (try clear hb)
              (try clear hb2)
              (try clear hk)
              (try clear hi)
              refine hK.out _ _ ⟨v178, adz_v178, v188, adz_v188, m5_, m13_, (by rw [ha.out]; exact putSel_upk 2 hb_ rfl rfl rfl), fun h0_ => absurd ((hon 1 (by kernel_rfl)).symm.trans h0_) (by decide), (by repeat (first | (with_reducible first | exact HB.out | apply below_alloc | apply pw_below_drewN | apply below_drew1 | refine below_set ?_ (IsS68.ge HI173.out)) | exact HB.out)), fun _ h1_ => absurd ((up_self b 4).symm.trans h1_) (by decide), z_HO179, Q_HA_HO179, fun _ _ => (by repeat (first | (with_reducible first | exact HI173.out | apply IsS68.alloc | apply IsS68.drewN | apply IsS68.drew | apply IsS68.set_1 | apply IsS68.set_2) | exact HI173.out)), fun h0_ _ => absurd ((hoff 8 (by kernel_rfl)).symm.trans h0_) (by decide), fun h0_ => absurd ((hoff 10 (by kernel_rfl)).symm.trans h0_) (by decide), fun h0_ => absurd ((hoff 10 (by kernel_rfl)).symm.trans h0_) (by decide), fun h0_ => absurd ((hoff 12 (by kernel_rfl)).symm.trans h0_) (by decide), fun h0_ => absurd ((hoff 5 (by kernel_rfl)).symm.trans h0_) (by decide), fun h0_ => absurd ((hoff 13 (by kernel_rfl)).symm.trans h0_) (by decide)⟩
            refine steps_cons ?_ ?_
            · rintro b a w' ⟨v178, adz_v178, v188, adz_v188, m5_, m13_, ha, Q_HI173, Q_HB, Q_HI173_e1, Q_HO179, Q_HA_HO179, Q_HI173_e4, Q_HI173_e8, Q_HO189, Q_HA_HO189, Q_HI173_e12, Q_X5_, Q_X13_⟩ hb_ hon hoff
              refine ⟨_, rfl, fun K hK => ?_⟩
              have e10 : a.tmps[10]? = some (v178) := by rw [ha]; exact putSel_on (e := (2, 10, v178)) 1 rfl rfl (hon 2 (by kernel_rfl)) rfl
              have e12 : a.tmps[12]? = some (.int .i64 t180) := by rw [ha]; exact putSel_on (e := (4, 12, .int .i64 t180)) 2 rfl rfl (hon 4 (by kernel_rfl)) rfl
              replace ha := Aside0.mk ha
              have HB := Aside0.mk Q_HB
              have HO179 := Aside0.mk (Q_HO179 (hon 2 (by kernel_rfl)))
              have HA_HO179 := Aside0.mk (Q_HA_HO179 (hon 2 (by kernel_rfl)))
              obtain ⟨c_, hv_⟩ := HA_HO179.out
              rw [hv_] at e10
              refine value_ (w1 := w') (v := .pointer (some (adz_v178.add (t180).toNat))) (by rfl) rfl ?_ ?_
              · go_simp
                (try simp only [i64_w])
                try rfl
              refine hK.out _ _ ⟨v178, adz_v178, v188, adz_v188, (.pointer (some (adz_v178.add (t180).toNat))), m13_, (by rw [ha.out]; exact putSel_upk 3 hb_ rfl rfl rfl), fun h0_ => absurd ((hon 1 (by kernel_rfl)).symm.trans h0_) (by decide), Q_HB, fun _ h1_ => absurd ((hon 4 (by kernel_rfl)).symm.trans h1_) (by decide), Q_HO179, Q_HA_HO179, Q_HI173_e4, Q_HI173_e8, Q_HO189, Q_HA_HO189, Q_HI173_e12, fun _ => rfl, Q_X13_⟩
            refine steps_cons ?_ ?_
            · rintro b a w' ⟨v178, adz_v178, v188, adz_v188, m5_, m13_, ha, Q_HI173, Q_HB, Q_HI173_e1, Q_HO179, Q_HA_HO179, Q_HI173_e4, Q_HI173_e8, Q_HO189, Q_HA_HO189, Q_HI173_e12, Q_X5_, Q_X13_⟩ hb_ hon hoff
              refine ⟨_, rfl, fun K hK => ?_⟩
              have e13 : a.tmps[13]? = some (m5_) := by rw [ha]; exact putSel_on (e := (5, 13, m5_)) 3 rfl rfl (hon 5 (by kernel_rfl)) rfl
              rw [Q_X5_ (hon 5 (by kernel_rfl))] at e13
              replace ha := Aside0.mk ha
              have HB := Aside0.mk Q_HB
              have HO179 := Aside0.mk (Q_HO179 (hon 2 (by kernel_rfl)))
              have HA_HO179 := Aside0.mk (Q_HA_HO179 (hon 2 (by kernel_rfl)))
              obtain ⟨c_, hv_⟩ := HA_HO179.out
              have hF_ := HO179.out
              rw [hv_] at hF_
              obtain ⟨ad_, ea_, hx_⟩ := Kd.at_int (Kd.R_reads' hF_).2.2 t180 (of_eq_true pi183) (of_eq_true qi183)
              cases ea_
              refine value_ (w1 := w') (v := .int .i64 (rd y177 t180)) (by rfl) rfl ?_ ?_
              · go_simp
                (try simp only [i64_w])
                try rfl
              refine hK.out _ _ ⟨v178, adz_v178, v188, adz_v188, m5_, m13_, (by rw [ha.out]; exact putSel_upk 4 hb_ rfl rfl rfl), fun h0_ => absurd ((hon 1 (by kernel_rfl)).symm.trans h0_) (by decide), Q_HB, fun _ h1_ => absurd ((hon 4 (by kernel_rfl)).symm.trans h1_) (by decide), Q_HO179, Q_HA_HO179, Q_HI173_e4, Q_HI173_e8, Q_HO189, Q_HA_HO189, Q_HI173_e12, Q_X5_, Q_X13_⟩
            refine steps_cons ?_ ?_
            · rintro b a w' ⟨v178, adz_v178, v188, adz_v188, m5_, m13_, ha, Q_HI173, Q_HB, Q_HI173_e1, Q_HO179, Q_HA_HO179, Q_HI173_e4, Q_HI173_e8, Q_HO189, Q_HA_HO189, Q_HI173_e12, Q_X5_, Q_X13_⟩ hb_ hon hoff
              refine ⟨_, rfl, fun K hK => ?_⟩
              have e15 : a.tmps[15]? = some (.pointer (some ⟨gb173, 0, none⟩)) := by rw [ha]; exact (putSel_off rfl).trans rfl
              replace ha := Aside0.mk ha
              have HB := Aside0.mk Q_HB
              have HI173 := Aside0.mk (Q_HI173_e4 (hon 4 (by kernel_rfl)) hb_)
              refine goes_ Try.func43 (by kernel_rfl) rfl #[.pointer (some ⟨gb173, 0, none⟩), .int .i64 2881] (by rfl) rfl rfl (by first | (simp only [List.map_toArray, List.map_cons, List.map_nil, Act.eval, Array.getD_eq_getD_getElem?, Option.getD_some, e15]; done) | (simp only [List.map_toArray, List.map_cons, List.map_nil, Act.eval, Array.getD_eq_getD_getElem?, Option.getD_some, e15]; rfl)) ?_
              with_reducible refine (spec_l1Cur_pick.calls gb173 l0 t181 t182 2881 t184 t185 t186 w _ ?side1 ?side2 A6.out).mono ?_
              (case side1 => repeat (first | (with_reducible first | exact HI173.out | apply IsS68.alloc | apply IsS68.drewN | apply IsS68.drew | apply IsS68.set_1 | apply IsS68.set_2) | exact HI173.out))
              (case side2 => repeat (first | (with_reducible first | exact HB.out | apply below_alloc | apply pw_below_drewN | apply below_drew1 | refine below_set ?_ (IsS68.ge HI173.out)) | exact HB.out))
              rintro e w15 ⟨rfl, hi, hb, hk⟩
              refine ⟨_, rfl, ?_⟩
              have n0_ := Aside0.mk (hb)
              have n1_ := Aside0.mk (hi)
              have z_HO179 := fun (h0_ : b 2 = true) => (show Kd.R (Kd.int .i64) 3 w15 w.heap.size (fun _ => True) v178 y177 from by first | exact (Kd.R_mono (Kd.R_keep (IsS68.apart (show IsS68 w _ gb173 l0 t181 t182 from by repeat (first | (with_reducible first | exact HI173.out | apply IsS68.alloc | apply IsS68.drewN | apply IsS68.drew | apply IsS68.set_1 | apply IsS68.set_2) | exact HI173.out)) (by (with_reducible repeat (first | apply Kd.R_alloc | apply Kd.R_drewN | apply Kd.R_drew)); exact (Q_HO179 h0_)) (by decide)) hk (fun _ h => h.2)) (fun _ h => h.1)) | exact Kd.R_mono (Kd.R_mono (Kd.R_keep (IsS68.apart (show IsS68 w _ gb173 l0 t181 t182 from by repeat (first | (with_reducible first | exact HI173.out | apply IsS68.alloc | apply IsS68.drewN | apply IsS68.drew | apply IsS68.set_1 | apply IsS68.set_2) | exact HI173.out)) (by (with_reducible repeat (first | apply Kd.R_alloc | apply Kd.R_drewN | apply Kd.R_drew)); exact (Q_HO179 h0_)) (by decide)) hk (fun _ h => h.2)) (fun _ h => h.1)) (fun _ h_ => by first | trivial | exact h_ | exact h_.1))
              clear HB
              clear HI173
              have HB := n0_
              have HI173 := n1_
              clear n0_ n1_
              (try clear hb)
              (try clear hb2)
              (try clear hk)
              (try clear hi)
              refine hK.out _ _ ⟨v178, adz_v178, v188, adz_v188, m5_, m13_, (by rw [ha.out]; exact putSel_upk 5 hb_ rfl rfl rfl), fun h0_ => absurd ((hon 1 (by kernel_rfl)).symm.trans h0_) (by decide), (by repeat (first | (with_reducible first | exact HB.out | apply below_alloc | apply pw_below_drewN | apply below_drew1 | refine below_set ?_ (IsS68.ge HI173.out)) | exact HB.out)), fun _ h1_ => absurd ((hon 4 (by kernel_rfl)).symm.trans h1_) (by decide), z_HO179, Q_HA_HO179, fun _ h1_ => absurd ((up_self b 8).symm.trans h1_) (by decide), fun _ _ => (by repeat (first | (with_reducible first | exact HI173.out | apply IsS68.alloc | apply IsS68.drewN | apply IsS68.drew | apply IsS68.set_1 | apply IsS68.set_2) | exact HI173.out)), fun h0_ => absurd ((hoff 10 (by kernel_rfl)).symm.trans h0_) (by decide), fun h0_ => absurd ((hoff 10 (by kernel_rfl)).symm.trans h0_) (by decide), fun h0_ => absurd ((hoff 12 (by kernel_rfl)).symm.trans h0_) (by decide), Q_X5_, fun h0_ => absurd ((hoff 13 (by kernel_rfl)).symm.trans h0_) (by decide)⟩
            refine steps_cons ?_ ?_
            · rintro b a w' ⟨v178, adz_v178, v188, adz_v188, m5_, m13_, ha, Q_HI173, Q_HB, Q_HI173_e1, Q_HO179, Q_HA_HO179, Q_HI173_e4, Q_HI173_e8, Q_HO189, Q_HA_HO189, Q_HI173_e12, Q_X5_, Q_X13_⟩ hb_ hon hoff
              refine ⟨_, rfl, fun K hK => ?_⟩
              have e16 : a.tmps[16]? = some (.int .i64 t184) := by rw [ha]; exact putSel_on (e := (8, 16, .int .i64 t184)) 5 rfl rfl (hon 8 (by kernel_rfl)) rfl
              replace ha := Aside0.mk ha
              have HB := Aside0.mk Q_HB
              refine value_ (w1 := w') (v := .int .i64 (wrap64 (t184 - 1440))) (by rfl) rfl ?_ ?_
              · go_simp
                (try simp only [i64_w])
                try rfl
              refine hK.out _ _ ⟨v178, adz_v178, v188, adz_v188, m5_, m13_, (by rw [ha.out]; exact putSel_upk 6 hb_ rfl rfl rfl), fun h0_ => absurd ((hon 1 (by kernel_rfl)).symm.trans h0_) (by decide), Q_HB, fun _ h1_ => absurd ((hon 4 (by kernel_rfl)).symm.trans h1_) (by decide), Q_HO179, Q_HA_HO179, fun _ h1_ => absurd ((hon 8 (by kernel_rfl)).symm.trans h1_) (by decide), Q_HI173_e8, fun h0_ => absurd ((hoff 10 (by kernel_rfl)).symm.trans h0_) (by decide), fun h0_ => absurd ((hoff 10 (by kernel_rfl)).symm.trans h0_) (by decide), Q_HI173_e12, Q_X5_, fun h0_ => absurd ((hoff 13 (by kernel_rfl)).symm.trans h0_) (by decide)⟩
            refine steps_cons ?_ ?_
            · rintro b a w' ⟨v178, adz_v178, v188, adz_v188, m5_, m13_, ha, Q_HI173, Q_HB, Q_HI173_e1, Q_HO179, Q_HA_HO179, Q_HI173_e4, Q_HI173_e8, Q_HO189, Q_HA_HO189, Q_HI173_e12, Q_X5_, Q_X13_⟩ hb_ hon hoff
              refine ⟨_, rfl, fun K hK => ?_⟩
              have e17 : a.tmps[17]? = some (.int .i64 (wrap64 (t184 - 1440))) := by rw [ha]; exact putSel_on (e := (9, 17, .int .i64 (wrap64 (t184 - 1440)))) 6 rfl rfl (hon 9 (by kernel_rfl)) rfl
              replace ha := Aside0.mk ha
              have HB := Aside0.mk Q_HB
              refine Kd.R_lit_step (Kd.int .i64) _ 3 ?hg (N := 18) ?hd (xs := ([wrap64 (t184 - 1440), (-1441), 1441] : List Int)) (inner := [.int .i64 (wrap64 (t184 - 1440)), .int .i64 (-1441), .int .i64 1441]) (ok := fun _ => True) (okp := fun _ => True) ?hr ?hp (fun _ hk => hk) trivial (Below.refl _ _) (Nat.le_refl _) (by simp) ?_; (case hd => rfl); (case hg => rfl); (case hr => first | (go_simp; done) | (go_simp; rfl)); (case hp => exact (Reps.one (show Kd.M (Kd.int .i64) _ _ _ (wrap64 (t184 - 1440)) [.int .i64 (wrap64 (t184 - 1440))] from rfl) (Reps.one (show Kd.M (Kd.int .i64) _ _ _ (-1441) [.int .i64 (-1441)] from rfl) (Reps.one (show Kd.M (Kd.int .i64) _ _ _ 1441 [.int .i64 1441] from rfl) (Reps.none _ _)))))
              intro v188 w16 ho17 hb hg_ hnew_
              clear hg_ hnew_
              (first | rw [← Ny187.out] at ho17 | (simp only [Int.reduceToNat] at ho17; rw [← Ny187.out] at ho17))
              have n0_ := Aside0.mk (Kd.R_lower ho17 (below_size (by repeat (first | (with_reducible first | exact HB.out | apply below_alloc | apply pw_below_drewN | apply below_drew1) | exact HB.out))))
              have n2_ := Aside0.mk (below_step (by repeat (first | (with_reducible first | exact HB.out | apply below_alloc | apply pw_below_drewN | apply below_drew1) | exact HB.out)) hb)
              have z_HO179 := fun (h0_ : b 2 = true) => (show Kd.R (Kd.int .i64) 3 w16 w.heap.size (fun _ => True) v178 y177 from by first | exact (Kd.R_elder' (by (with_reducible repeat (first | apply Kd.R_alloc | apply Kd.R_drewN | apply Kd.R_drew)); exact (Q_HO179 h0_)) (Kd.R_base ho17) hb) | exact Kd.R_mono (Kd.R_elder' (by (with_reducible repeat (first | apply Kd.R_alloc | apply Kd.R_drewN | apply Kd.R_drew)); exact (Q_HO179 h0_)) (Kd.R_base ho17) hb) (fun _ h_ => by first | trivial | exact h_ | exact h_.1))
              have z_HI173_e8 := fun (h0_ : b 8 = true) (h1_ : b 12 = false) => (show IsS68 w w16 gb173 l0 t185 t186 from by first | exact (IsS68.below (by repeat (first | (with_reducible first | exact (Q_HI173_e8 h0_ h1_) | apply IsS68.alloc | apply IsS68.drewN | apply IsS68.drew | apply IsS68.set_1 | apply IsS68.set_2) | exact (Q_HI173_e8 h0_ h1_))) hb))
              have z_HI173_e12 := fun (h0_ : b 12 = true) => (show IsS68 w w16 gb173 l0 t191 t192 from by first | exact (IsS68.below (by repeat (first | (with_reducible first | exact (Q_HI173_e12 h0_) | apply IsS68.alloc | apply IsS68.drewN | apply IsS68.drew | apply IsS68.set_1 | apply IsS68.set_2) | exact (Q_HI173_e12 h0_))) hb))
              clear HB
              have HO189 := n0_
              have HB := n2_
              clear n0_ n2_
              clear hb ho17
              obtain ⟨Ao18, co18, eo18⟩ := Kd.R_slice HO189.out
              subst eo18
              obtain ⟨ado18, fo18, _⟩ := Kd.at_int (Kd.R_reads' HO189.out).2.2 0 (by decide) (by rw [Ny187.out]; simp)
              cases fo18
              refine hK.out _ _ ⟨v178, adz_v178, .slice (some ado18) y187.length co18, ado18, m5_, m13_, (by rw [ha.out]; exact putSel_upk 7 hb_ rfl rfl rfl), fun h0_ => absurd ((hon 1 (by kernel_rfl)).symm.trans h0_) (by decide), (by repeat (first | (with_reducible first | exact HB.out | apply below_alloc | apply pw_below_drewN | apply below_drew1) | exact HB.out)), fun _ h1_ => absurd ((hon 4 (by kernel_rfl)).symm.trans h1_) (by decide), z_HO179, Q_HA_HO179, fun _ h1_ => absurd ((hon 8 (by kernel_rfl)).symm.trans h1_) (by decide), z_HI173_e8, fun _ => (by (with_reducible repeat (first | apply Kd.R_alloc | apply Kd.R_drewN | apply Kd.R_drew)); exact HO189.out), fun _ => ⟨_, rfl⟩, z_HI173_e12, Q_X5_, fun h0_ => absurd ((hoff 13 (by kernel_rfl)).symm.trans h0_) (by decide)⟩
            refine steps_cons ?_ ?_
            · rintro b a w' ⟨v178, adz_v178, v188, adz_v188, m5_, m13_, ha, Q_HI173, Q_HB, Q_HI173_e1, Q_HO179, Q_HA_HO179, Q_HI173_e4, Q_HI173_e8, Q_HO189, Q_HA_HO189, Q_HI173_e12, Q_X5_, Q_X13_⟩ hb_ hon hoff
              refine ⟨_, rfl, fun K hK => ?_⟩
              have e19 : a.tmps[19]? = some (.pointer (some ⟨gb173, 0, none⟩)) := by rw [ha]; exact (putSel_off rfl).trans rfl
              replace ha := Aside0.mk ha
              have HB := Aside0.mk Q_HB
              have HI173 := Aside0.mk (Q_HI173_e8 (hon 8 (by kernel_rfl)) hb_)
              refine goes_ Try.func42 (by kernel_rfl) rfl #[.pointer (some ⟨gb173, 0, none⟩), .int .i64 3] (by rfl) rfl rfl (by first | (simp only [List.map_toArray, List.map_cons, List.map_nil, Act.eval, Array.getD_eq_getD_getElem?, Option.getD_some, e19]; done) | (simp only [List.map_toArray, List.map_cons, List.map_nil, Act.eval, Array.getD_eq_getD_getElem?, Option.getD_some, e19]; rfl)) ?_
              with_reducible refine (spec_l1Cur_rare.calls gb173 l0 t185 t186 3 t190 t191 t192 w _ ?side1 ?side2 A7.out).mono ?_
              (case side1 => repeat (first | (with_reducible first | exact HI173.out | apply IsS68.alloc | apply IsS68.drewN | apply IsS68.drew | apply IsS68.set_1 | apply IsS68.set_2) | exact HI173.out))
              (case side2 => repeat (first | (with_reducible first | exact HB.out | apply below_alloc | apply pw_below_drewN | apply below_drew1 | refine below_set ?_ (IsS68.ge HI173.out)) | exact HB.out))
              rintro e w16 ⟨rfl, hi, hb, hk⟩
              refine ⟨_, rfl, ?_⟩
              have n0_ := Aside0.mk (hb)
              have n1_ := Aside0.mk (hi)
              have z_HO179 := fun (h0_ : b 2 = true) => (show Kd.R (Kd.int .i64) 3 w16 w.heap.size (fun _ => True) v178 y177 from by first | exact (Kd.R_mono (Kd.R_keep (IsS68.apart (show IsS68 w _ gb173 l0 t185 t186 from by repeat (first | (with_reducible first | exact HI173.out | apply IsS68.alloc | apply IsS68.drewN | apply IsS68.drew | apply IsS68.set_1 | apply IsS68.set_2) | exact HI173.out)) (by (with_reducible repeat (first | apply Kd.R_alloc | apply Kd.R_drewN | apply Kd.R_drew)); exact (Q_HO179 h0_)) (by decide)) hk (fun _ h => h.2)) (fun _ h => h.1)) | exact Kd.R_mono (Kd.R_mono (Kd.R_keep (IsS68.apart (show IsS68 w _ gb173 l0 t185 t186 from by repeat (first | (with_reducible first | exact HI173.out | apply IsS68.alloc | apply IsS68.drewN | apply IsS68.drew | apply IsS68.set_1 | apply IsS68.set_2) | exact HI173.out)) (by (with_reducible repeat (first | apply Kd.R_alloc | apply Kd.R_drewN | apply Kd.R_drew)); exact (Q_HO179 h0_)) (by decide)) hk (fun _ h => h.2)) (fun _ h => h.1)) (fun _ h_ => by first | trivial | exact h_ | exact h_.1))
              have z_HO189 := fun (h0_ : b 10 = true) => (show Kd.R (Kd.int .i64) 3 w16 w.heap.size (fun _ => True) v188 y187 from by first | exact (Kd.R_mono (Kd.R_keep (IsS68.apart (show IsS68 w _ gb173 l0 t185 t186 from by repeat (first | (with_reducible first | exact HI173.out | apply IsS68.alloc | apply IsS68.drewN | apply IsS68.drew | apply IsS68.set_1 | apply IsS68.set_2) | exact HI173.out)) (by (with_reducible repeat (first | apply Kd.R_alloc | apply Kd.R_drewN | apply Kd.R_drew)); exact (Q_HO189 h0_)) (by decide)) hk (fun _ h => h.2)) (fun _ h => h.1)) | exact Kd.R_mono (Kd.R_mono (Kd.R_keep (IsS68.apart (show IsS68 w _ gb173 l0 t185 t186 from by repeat (first | (with_reducible first | exact HI173.out | apply IsS68.alloc | apply IsS68.drewN | apply IsS68.drew | apply IsS68.set_1 | apply IsS68.set_2) | exact HI173.out)) (by (with_reducible repeat (first | apply Kd.R_alloc | apply Kd.R_drewN | apply Kd.R_drew)); exact (Q_HO189 h0_)) (by decide)) hk (fun _ h => h.2)) (fun _ h => h.1)) (fun _ h_ => by first | trivial | exact h_ | exact h_.1))
              clear HB
              clear HI173
              have HB := n0_
              have HI173 := n1_
              clear n0_ n1_
              (try clear hb)
              (try clear hb2)
              (try clear hk)
              (try clear hi)
              refine hK.out _ _ ⟨v178, adz_v178, v188, adz_v188, m5_, m13_, (by rw [ha.out]; exact putSel_upk 8 hb_ rfl rfl rfl), fun h0_ => absurd ((hon 1 (by kernel_rfl)).symm.trans h0_) (by decide), (by repeat (first | (with_reducible first | exact HB.out | apply below_alloc | apply pw_below_drewN | apply below_drew1 | refine below_set ?_ (IsS68.ge HI173.out)) | exact HB.out)), fun _ h1_ => absurd ((hon 4 (by kernel_rfl)).symm.trans h1_) (by decide), z_HO179, Q_HA_HO179, fun _ h1_ => absurd ((hon 8 (by kernel_rfl)).symm.trans h1_) (by decide), fun _ h1_ => absurd ((up_self b 12).symm.trans h1_) (by decide), z_HO189, Q_HA_HO189, fun _ => (by repeat (first | (with_reducible first | exact HI173.out | apply IsS68.alloc | apply IsS68.drewN | apply IsS68.drew | apply IsS68.set_1 | apply IsS68.set_2) | exact HI173.out)), Q_X5_, fun h0_ => absurd ((hoff 13 (by kernel_rfl)).symm.trans h0_) (by decide)⟩
            refine steps_cons ?_ ?_
            · rintro b a w' ⟨v178, adz_v178, v188, adz_v188, m5_, m13_, ha, Q_HI173, Q_HB, Q_HI173_e1, Q_HO179, Q_HA_HO179, Q_HI173_e4, Q_HI173_e8, Q_HO189, Q_HA_HO189, Q_HI173_e12, Q_X5_, Q_X13_⟩ hb_ hon hoff
              refine ⟨_, rfl, fun K hK => ?_⟩
              have e18 : a.tmps[18]? = some (v188) := by rw [ha]; exact putSel_on (e := (10, 18, v188)) 7 rfl rfl (hon 10 (by kernel_rfl)) rfl
              have e20 : a.tmps[20]? = some (.int .i64 t190) := by rw [ha]; exact putSel_on (e := (12, 20, .int .i64 t190)) 8 rfl rfl (hon 12 (by kernel_rfl)) rfl
              replace ha := Aside0.mk ha
              have HB := Aside0.mk Q_HB
              have HO189 := Aside0.mk (Q_HO189 (hon 10 (by kernel_rfl)))
              have HA_HO189 := Aside0.mk (Q_HA_HO189 (hon 10 (by kernel_rfl)))
              have HI173 := Aside0.mk (Q_HI173_e12 (hon 12 (by kernel_rfl)))
              obtain ⟨c_, hv_⟩ := HA_HO189.out
              rw [hv_] at e18
              refine value_ (w1 := w') (v := .pointer (some (adz_v188.add (t190).toNat))) (by rfl) rfl ?_ ?_
              · go_simp
                (try simp only [i64_w])
                try rfl
              refine hK.out _ _ ⟨v178, adz_v178, v188, adz_v188, m5_, (.pointer (some (adz_v188.add (t190).toNat))), (by rw [ha.out]; exact putSel_upk 9 hb_ rfl rfl rfl), fun h0_ => absurd ((hon 1 (by kernel_rfl)).symm.trans h0_) (by decide), Q_HB, fun _ h1_ => absurd ((hon 4 (by kernel_rfl)).symm.trans h1_) (by decide), Q_HO179, Q_HA_HO179, fun _ h1_ => absurd ((hon 8 (by kernel_rfl)).symm.trans h1_) (by decide), fun _ h1_ => absurd ((hon 12 (by kernel_rfl)).symm.trans h1_) (by decide), Q_HO189, Q_HA_HO189, Q_HI173_e12, Q_X5_, fun _ => rfl⟩
            refine steps_cons ?_ ?_
            · rintro b a w' ⟨v178, adz_v178, v188, adz_v188, m5_, m13_, ha, Q_HI173, Q_HB, Q_HI173_e1, Q_HO179, Q_HA_HO179, Q_HI173_e4, Q_HI173_e8, Q_HO189, Q_HA_HO189, Q_HI173_e12, Q_X5_, Q_X13_⟩ hb_ hon hoff
              refine ⟨_, rfl, fun K hK => ?_⟩
              have e21 : a.tmps[21]? = some (m13_) := by rw [ha]; exact putSel_on (e := (13, 21, m13_)) 9 rfl rfl (hon 13 (by kernel_rfl)) rfl
              rw [Q_X13_ (hon 13 (by kernel_rfl))] at e21
              replace ha := Aside0.mk ha
              have HB := Aside0.mk Q_HB
              have HO189 := Aside0.mk (Q_HO189 (hon 10 (by kernel_rfl)))
              have HA_HO189 := Aside0.mk (Q_HA_HO189 (hon 10 (by kernel_rfl)))
              have HI173 := Aside0.mk (Q_HI173_e12 (hon 12 (by kernel_rfl)))
              obtain ⟨c_, hv_⟩ := HA_HO189.out
              have hF_ := HO189.out
              rw [hv_] at hF_
              obtain ⟨ad_, ea_, hx_⟩ := Kd.at_int (Kd.R_reads' hF_).2.2 t190 (of_eq_true pi193) (of_eq_true qi193)
              cases ea_
              refine value_ (w1 := w') (v := .int .i64 (rd y187 t190)) (by rfl) rfl ?_ ?_
              · go_simp
                (try simp only [i64_w])
                try rfl
              refine hK.out _ _ ⟨v178, adz_v178, v188, adz_v188, m5_, m13_, (by rw [ha.out]; exact putSel_upk 10 hb_ rfl rfl rfl), fun h0_ => absurd ((hon 1 (by kernel_rfl)).symm.trans h0_) (by decide), Q_HB, fun _ h1_ => absurd ((hon 4 (by kernel_rfl)).symm.trans h1_) (by decide), Q_HO179, Q_HA_HO179, fun _ h1_ => absurd ((hon 8 (by kernel_rfl)).symm.trans h1_) (by decide), fun _ h1_ => absurd ((hon 12 (by kernel_rfl)).symm.trans h1_) (by decide), Q_HO189, Q_HA_HO189, Q_HI173_e12, Q_X5_, Q_X13_⟩
            refine steps_cons ?_ ?_
            · rintro b a w' ⟨v178, adz_v178, v188, adz_v188, m5_, m13_, ha, Q_HI173, Q_HB, Q_HI173_e1, Q_HO179, Q_HA_HO179, Q_HI173_e4, Q_HI173_e8, Q_HO189, Q_HA_HO189, Q_HI173_e12, Q_X5_, Q_X13_⟩ hb_ hon hoff
              refine ⟨_, rfl, fun K hK => ?_⟩
              have e14 : a.tmps[14]? = some (.int .i64 (rd y177 t180)) := by rw [ha]; exact putSel_on (e := (6, 14, .int .i64 (rd y177 t180))) 4 rfl rfl (hon 6 (by kernel_rfl)) rfl
              replace ha := Aside0.mk ha
              have HB := Aside0.mk Q_HB
              have HO179 := Aside0.mk (Q_HO179 (hon 2 (by kernel_rfl)))
              have HA_HO179 := Aside0.mk (Q_HA_HO179 (hon 2 (by kernel_rfl)))
              have HI173 := Aside0.mk (Q_HI173_e12 (hon 12 (by kernel_rfl)))
              refine value_ (w1 := w') (v := .int .i64 (rd y177 t180)) (by rfl) rfl ?_ ?_
              · go_simp
                (try simp only [i64_w])
                try rfl
              refine hK.out _ _ ⟨v178, adz_v178, v188, adz_v188, m5_, m13_, (by rw [ha.out]; exact putSel_upk 11 hb_ rfl rfl rfl), fun h0_ => absurd ((hon 1 (by kernel_rfl)).symm.trans h0_) (by decide), Q_HB, fun _ h1_ => absurd ((hon 4 (by kernel_rfl)).symm.trans h1_) (by decide), Q_HO179, Q_HA_HO179, fun _ h1_ => absurd ((hon 8 (by kernel_rfl)).symm.trans h1_) (by decide), fun _ h1_ => absurd ((hon 12 (by kernel_rfl)).symm.trans h1_) (by decide), Q_HO189, Q_HA_HO189, Q_HI173_e12, Q_X5_, Q_X13_⟩
            refine steps_cons ?_ ?_
            · rintro b a w' ⟨v178, adz_v178, v188, adz_v188, m5_, m13_, ha, Q_HI173, Q_HB, Q_HI173_e1, Q_HO179, Q_HA_HO179, Q_HI173_e4, Q_HI173_e8, Q_HO189, Q_HA_HO189, Q_HI173_e12, Q_X5_, Q_X13_⟩ hb_ hon hoff
              refine ⟨_, rfl, fun K hK => ?_⟩
              have e22 : a.tmps[22]? = some (.int .i64 (rd y187 t190)) := by rw [ha]; exact putSel_on (e := (14, 22, .int .i64 (rd y187 t190))) 10 rfl rfl (hon 14 (by kernel_rfl)) rfl
              replace ha := Aside0.mk ha
              have HB := Aside0.mk Q_HB
              have HO179 := Aside0.mk (Q_HO179 (hon 2 (by kernel_rfl)))
              have HA_HO179 := Aside0.mk (Q_HA_HO179 (hon 2 (by kernel_rfl)))
              have HO189 := Aside0.mk (Q_HO189 (hon 10 (by kernel_rfl)))
              have HA_HO189 := Aside0.mk (Q_HA_HO189 (hon 10 (by kernel_rfl)))
              have HI173 := Aside0.mk (Q_HI173_e12 (hon 12 (by kernel_rfl)))
              refine value_ (w1 := w') (v := .int .i64 (rd y187 t190)) (by rfl) rfl ?_ ?_
              · go_simp
                (try simp only [i64_w])
                try rfl
              refine hK.out _ _ ⟨v178, adz_v178, v188, adz_v188, m5_, m13_, (by rw [ha.out]; exact putSel_upk 12 hb_ rfl rfl rfl), fun h0_ => absurd ((hon 1 (by kernel_rfl)).symm.trans h0_) (by decide), Q_HB, fun _ h1_ => absurd ((hon 4 (by kernel_rfl)).symm.trans h1_) (by decide), Q_HO179, Q_HA_HO179, fun _ h1_ => absurd ((hon 8 (by kernel_rfl)).symm.trans h1_) (by decide), fun _ h1_ => absurd ((hon 12 (by kernel_rfl)).symm.trans h1_) (by decide), Q_HO189, Q_HA_HO189, Q_HI173_e12, Q_X5_, Q_X13_⟩
            exact steps_nil
          rintro b a w22 hall ⟨v178, adz_v178, v188, adz_v188, m5_, m13_, ha, Q_HI173, Q_HB, Q_HI173_e1, Q_HO179, Q_HA_HO179, Q_HI173_e4, Q_HI173_e8, Q_HO189, Q_HA_HO189, Q_HI173_e12, Q_X5_, Q_X13_⟩
          clear HB HI173
          have hb1_ := hall 1 (by kernel_rfl)
          have hb2_ := hall 2 (by kernel_rfl)
          have hb4_ := hall 4 (by kernel_rfl)
          have hb5_ := hall 5 (by kernel_rfl)
          have hb6_ := hall 6 (by kernel_rfl)
          have hb8_ := hall 8 (by kernel_rfl)
          have hb9_ := hall 9 (by kernel_rfl)
          have hb10_ := hall 10 (by kernel_rfl)
          have hb12_ := hall 12 (by kernel_rfl)
          have hb13_ := hall 13 (by kernel_rfl)
          have hb14_ := hall 14 (by kernel_rfl)
          have hb15_ := hall 15 (by kernel_rfl)
          have hb16_ := hall 16 (by kernel_rfl)
          subst ha
          obtain rfl := Q_X5_ hb5_
          obtain rfl := Q_X13_ hb13_
          simp only [putSel, hb1_, hb2_, hb4_, hb5_, hb6_, hb8_, hb9_, hb10_, hb12_, hb13_, hb14_, hb15_, hb16_, if_true, Act.put, List.setIfInBounds_toArray, List.set_cons_zero, List.set_cons_succ]
          clear Q_HI173
          have HB := Aside0.mk Q_HB
          clear Q_HB
          clear Q_HI173_e1
          have HO179 := Aside0.mk (Q_HO179 hb2_)
          clear Q_HO179
          have HA_HO179 := Aside0.mk (Q_HA_HO179 hb2_)
          clear Q_HA_HO179
          clear Q_HI173_e4
          clear Q_HI173_e8
          have HO189 := Aside0.mk (Q_HO189 hb10_)
          clear Q_HO189
          have HA_HO189 := Aside0.mk (Q_HA_HO189 hb10_)
          clear Q_HA_HO189
          have HI173 := Aside0.mk (Q_HI173_e12 hb12_)
          clear Q_HI173_e12
          clear hall hb1_ hb2_ hb4_ hb5_ hb6_ hb8_ hb9_ hb10_ hb12_ hb13_ hb14_ hb15_ hb16_
          obtain ⟨co23, eo23⟩ := HA_HO179.out
          clear HA_HO179
          subst eo23
          obtain ⟨co24, eo24⟩ := HA_HO189.out
          clear HA_HO189
          subst eo24
          try go_wp2
          go_ret2
          exact ⟨by first | rfl | (simp [errW_none, errW_some] <;> rfl) | (simp [*, errW_none, errW_some] <;> rfl), by repeat (first | (with_reducible first | exact HB.out | apply below_alloc | apply pw_below_drewN | apply below_drew1 | refine below_set ?_ (IsS68.ge HI173.out)) | exact HB.out)⟩
        · rw [if_neg c9] at H
          exact absurd H (by simp)
      · rw [if_neg c8] at H
        exact absurd H (by simp)
    · rw [if_neg c5] at H
      exact absurd H (by simp)
  · rw [if_neg c4] at H
    exact absurd H (by simp)

end Go.Proofs.Ythlinnbamejmaaa.PFnDates
