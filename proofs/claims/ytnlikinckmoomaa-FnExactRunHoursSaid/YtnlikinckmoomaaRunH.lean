/- RunHours and StepHour: the contracts of the program's and of the reference's functions. -/
import Derived.Test.YtnlikinckmoomaaHours
namespace Go.Proofs.Ytnlikinckmoomaa
open Go.ChangeShapes Go.WideShapes Go.ChangeAt Go.RowKit Go.Joins Go.Deep
set_option linter.unusedVariables false
theorem allJ_snoc (js : List Int) (k : Nat) (h : k < js.length) (ha : (js.take k).all jOk = true) (hk : jOk js[k] = true) : (js.take (k + 1)).all jOk = true := by
  rw [List.take_succ_eq_append_getElem h, List.all_append, ha]
  simp [hk]
theorem allJ_bad (js : List Int) (k : Nat) (h : k < js.length) (hk : jOk js[k] = false) : js.all jOk = false := by
  cases e : js.all jOk
  · rfl
  · have := List.all_eq_true.1 e _ (List.getElem_mem h)
    rw [hk] at this
    cases this
theorem allJ_take (js : List Int) (h : (js.take js.length).all jOk = true) : js.all jOk = true := by rwa [List.take_length] at h
theorem rh1_any (x : Int) (w : World) : Calls Try.prog 63 #[.int .i64 x] w fun e w' => e = .returned (.bool (!jOk x)) ∧ w = w' := by
  go_enter Try.func63, Try.ntmps63
  go_wp2_with (go_at_call 41; refine (within_any _ _ _ _).mono ?_; rintro e w' ⟨rfl, rfl⟩)
  go_ret
  exact ⟨rfl, rfl⟩
theorem idxJ_all (A : Option Addr) (c : Nat) (ns : List Int) (w : World) (hr : RdI w A ns) (hn : ns.length ≤ 1048576) (h : ns.all jOk = true) :
    Calls Try.prog 80 #[.slice A ns.length c, .func (.func 63) #[] #[]] w fun e w' => e = .returned (.int .i64 (-1)) ∧ Below w.heap.size w w' := by
  have HALL : ∀ k (hk : k < ns.length), jOk ns[k] = true := fun k hk => List.all_eq_true.1 h _ (List.getElem_mem _)
  have H := Lib.hid HALL
  clear HALL h
  go_enter Try.func80, Try.ntmps80
  go_wp2_with fail
  go_loopw [8] (fun i wr => ∃ k : Nat, k ≤ ns.length ∧ i = .int .i64 k ∧ Below w.heap.size w wr) (fun i _ => ns.length - (intOf i).toNat)
  case atStart => exact ⟨0, Nat.zero_le _, rfl, Below.refl _ _⟩
  case round =>
    obtain ⟨k, hk, rfl, hb⟩ := hrel
    by_cases hlt : k < ns.length
    · obtain ⟨g, o, rfl, hx⟩ := (hr.below hb).at_ k hlt
      have ho := H.out k hlt
      go_wp2_with fail
      clear hx
      refine (rh1_any _ _).mono ?_
      rintro e w1 ⟨rfl, rfl⟩
      go_wp2_with fail
      go_roundw
      case rel => exact ⟨k + 1, by omega, by go_num, hb⟩
      case measure => simp [intOf]; omega
    · obtain rfl : k = ns.length := by omega
      go_wp2_with fail
      go_ret
      exact ⟨rfl, hb⟩
theorem idxJ_bad (A : Option Addr) (c : Nat) (ns : List Int) (w : World) (hr : RdI w A ns) (hn : ns.length ≤ 1048576) (h : ns.all jOk = false) :
    Calls Try.prog 80 #[.slice A ns.length c, .func (.func 63) #[] #[]] w (Found w) := by
  have H := Lib.hid h
  clear h
  go_enter Try.func80, Try.ntmps80
  go_wp2_with fail
  go_loopw [8] (fun i wr => ∃ k : Nat, k ≤ ns.length ∧ i = .int .i64 k ∧ (ns.take k).all jOk = true ∧ Below w.heap.size w wr) (fun i _ => ns.length - (intOf i).toNat)
  case atStart => exact ⟨0, Nat.zero_le _, rfl, by simp, Below.refl _ _⟩
  case round =>
    obtain ⟨k, hk, rfl, ha, hb⟩ := hrel
    have HA := Lib.hid ha
    clear ha
    by_cases hlt : k < ns.length
    · obtain ⟨g, o, rfl, hx⟩ := (hr.below hb).at_ k hlt
      rcases ho : jOk ns[k] with _ | _
      · go_wp2_with fail
        clear hx
        refine (rh1_any _ _).mono ?_
        rintro e w1 ⟨rfl, rfl⟩
        go_wp2_with fail
        go_ret
        exact ⟨k, rfl, by omega, hb⟩
      · have HB := Lib.hid (allJ_snoc ns k hlt HA.out ho)
        go_wp2_with fail
        clear hx
        refine (rh1_any _ _).mono ?_
        rintro e w1 ⟨rfl, rfl⟩
        go_wp2_with fail
        go_roundw
        case rel => exact ⟨k + 1, by omega, by go_num, HB.out, hb⟩
        case measure => simp [intOf]; omega
    · obtain rfl : k = ns.length := by omega
      exfalso
      have h1 := allJ_take ns HA.out
      rw [H.out] at h1
      cases h1
theorem contJ_any (A : Option Addr) (c : Nat) (ns : List Int) (w : World) (hr : RdI w A ns) (hn : ns.length ≤ 1048576) :
    Calls Try.prog 62 #[.slice A ns.length c, .func (.func 63) #[] #[]] w fun e w' => e = .returned (.bool (!ns.all jOk)) ∧ Below w.heap.size w w' := by
  rcases h : ns.all jOk with _ | _
  · go_enter Try.func62, Try.ntmps62
    go_wp2_with fail
    refine (idxJ_bad A c ns _ hr hn h).mono ?_
    rintro e w1 ⟨k, rfl, hk, hb1⟩
    go_wp2_with fail
    go_ret
    exact ⟨rfl, hb1⟩
  · go_enter Try.func62, Try.ntmps62
    go_wp2_with fail
    refine (idxJ_all A c ns _ hr hn h).mono ?_
    rintro e w1 ⟨rfl, hb1⟩
    go_wp2_with fail
    go_ret
    exact ⟨rfl, hb1⟩
def RunR (w : World) (ls : List Ly) (js : List Int) (v s i : Value) (wr : World) : Prop := ∃ k : Nat, k ≤ js.length ∧ i = .int .i64 k ∧ s = .int .i64 (hoursF ls (js.take k)).s ∧ (∃ A c, v = .slice A (hoursF ls (js.take k)).l.length c ∧ (hoursF ls (js.take k)).l.length ≤ c ∧ OwnO wr w.heap.size A (hoursF ls (js.take k)).l) ∧ Below w.heap.size w wr
theorem RunR.start {w w1 : World} {ls : List Ly} {A : Option Addr} {c : Nat} {js : List Int} (hcap : ls.length ≤ c) (ho : OwnO w1 w.heap.size A ls) (hb : Below w.heap.size w w1) : RunR w ls js (.slice A ls.length c) (.int .i64 0) (.int .i64 0) w1 :=
  ⟨0, Nat.zero_le _, rfl, by simp [hoursF], ⟨A, c, by simp [hoursF], by simpa [hoursF] using hcap, by simpa [hoursF] using ho⟩, hb⟩
theorem RunR.next {w w2 : World} {ls : List Ly} {js : List Int} {A : Option Addr} {c k : Nat} {L : List Ly} {S : Int} (hlt : k < js.length) (hL : L = stepL (hoursF ls (js.take k)).l js[k]) (hS : S = (hoursF ls (js.take k)).s + stepW (hoursF ls (js.take k)).l js[k])
    (hcap : L.length ≤ c) (ho : OwnO w2 w.heap.size A L) (hb : Below w.heap.size w w2) : RunR w ls js (.slice A L.length c) (.int .i64 S) (.int .i64 ((k + 1 : Nat) : Int)) w2 := by
  have e := hours_snoc ls js k hlt
  have e1 : (hoursF ls (js.take (k + 1))).l = L := by rw [e, hL]; rfl
  have e2 : (hoursF ls (js.take (k + 1))).s = S := by rw [e, hS]; rfl
  exact ⟨k + 1, by omega, rfl, by rw [e2], ⟨A, c, by rw [e1], by rw [e1]; exact hcap, by rw [e1]; exact ho⟩, hb⟩
set_option maxHeartbeats 2000000 in
theorem implRun_any (A : Option Addr) (c : Nat) (ls : List Ly) (D : Option Addr) (d : Nat) (js : List Int) (w : World) (hr : RdL w A ls) (hn : ls.length ≤ 1048576) (hi : RdI w D js) (hj : js.length ≤ 1048576) :
    Calls Try.prog 32 #[.slice A ls.length c, .slice D js.length d] w (GivesLVC w (hoursR ls js) (hoursV ls js) (hoursC ls js)) := by
  rcases hok : okL ls with _ | _
  · have F := Lib.hid (hours_1 hok js)
    go_enter Try.func32, Try.ntmps32
    go_wp2_with (go_at_call 40; refine (validProfile_any A c ls _ hr hn).mono ?_; rintro e w1 ⟨rfl, hb1⟩)
    go_ret3
    exact ⟨_, by rw [F.out.2.1, F.out.2.2]; rfl, ⟨none, 0, by rw [F.out.1]; rfl, .inl F.out.1⟩, hb1⟩
  rcases hin : js.all jOk with _ | _
  · have F := Lib.hid (hours_2 hok hin)
    go_enter Try.func32, Try.ntmps32
    go_wp2_with fail
    refine (validProfile_any A c ls _ hr hn).mono ?_
    rintro e w1 ⟨rfl, hb1⟩
    go_wp2_with fail
    refine (contJ_any D d js _ (hi.below hb1) hj).mono ?_
    rintro e w2 ⟨rfl, hb2⟩
    go_wp2_with fail
    go_ret3
    exact ⟨_, by rw [F.out.2.1, F.out.2.2]; rfl, ⟨none, 0, by rw [F.out.1]; rfl, .inl F.out.1⟩, bl_trans hb1 hb2⟩
  by_cases h64 : 64 < js.length
  · have F := Lib.hid (hours_7 hok hin h64)
    go_enter Try.func32, Try.ntmps32
    go_wp2_with fail
    refine (validProfile_any A c ls _ hr hn).mono ?_
    rintro e w1 ⟨rfl, hb1⟩
    go_wp2_with fail
    refine (contJ_any D d js _ (hi.below hb1) hj).mono ?_
    rintro e w2 ⟨rfl, hb2⟩
    go_wp2_with fail
    go_ret3
    exact ⟨_, by rw [F.out.2.1, F.out.2.2]; rfl, ⟨none, 0, by rw [F.out.1]; rfl, .inl F.out.1⟩, bl_trans hb1 hb2⟩
  have F := Lib.hid (hours_0 hok hin h64)
  have HV := Lib.hid (VL.of_ok hok)
  have HJ := Lib.hid (fun j hm => List.all_eq_true.1 hin j hm)
  go_enter Try.func32, Try.ntmps32
  go_wp2_with fail
  refine (validProfile_any A c ls _ hr hn).mono ?_
  rintro e w1 ⟨rfl, hb1⟩
  go_wp2_with fail
  refine (contJ_any D d js _ (hi.below hb1) hj).mono ?_
  rintro e w2 ⟨rfl, hb2⟩
  have hb02 := bl_trans hb1 hb2
  go_wp2_with fail
  refine (clone_any A c ls _ (hr.below hb02) hn).mono ?_
  rintro e w3 ⟨v3, rfl, hs3, hb3⟩
  obtain ⟨A3, c3, rfl, ho3⟩ := hs3.out
  have h0 : RunR w ls js (.slice A3 ls.length c3) (.int .i64 0) (.int .i64 0) w3 := RunR.start hs3.cap (ho3.mono hb02.size) (bl_trans hb02 hb3)
  clear hs3 ho3
  have hB := h0
  go_wp2_with fail
  go_loopw [7, 8, 26] (RunR w ls js) (fun _ _ i _ => js.length - (intOf i).toNat)
  case atStart => exact h0
  case round =>
    clear h0 hB
    obtain ⟨k, hk, rfl, rfl, ⟨A4, c4, rfl, hcap4, ho4⟩, hb4⟩ := hrel
    obtain ⟨V4, s0, s1⟩ := hours_bd HV.out js HJ.out k hk
    by_cases hlt : k < js.length
    · have HN := Lib.hid (fun A c L S w2 hL hS hcap ho hb => RunR.next (w := w) (w2 := w2) (ls := ls) (js := js) (A := A) (c := c) (k := k) (L := L) (S := S) hlt hL hS hcap ho hb)
      obtain ⟨g, o, rfl, hx⟩ := (hi.below hb4).at_ k hlt
      have HX := Lib.hid hx
      obtain ⟨j0, j1⟩ := inB_yes (HJ.out js[k] (List.getElem_mem _))
      have hk64 : k ≤ 64 := by omega
      clear hk
      generalize hoursF ls (js.take k) = h at *
      generalize js[k] = j at *
      obtain ⟨L, S⟩ := h
      have VS := settle_VL V4
      have VH := heatJ_VL V4 j0 j1
      have HW := Lib.hid (stepW_bd V4 j0 j1)
      have VD := drain_VL VH
      dsimp only at *
      go_wp2_with fail
      clear hx
      refine (settledP_any A4 c4 L wr ho4.rd V4 hcap4).mono ?_
      rintro e w5 ⟨A5, c5, rfl, hcap5, ho5, hb5⟩
      have hb05 := bl_trans hb4 hb5
      have ho5' := ho5.mono hb4.size
      have hsz5 := hb05.size
      by_cases hj0 : 0 ≤ j
      · have HJJ := Lib.hid (heatJ_p (ls := L) hj0)
        have hl6 : (heatJ L j).length = (settleL L).length := by rw [HJJ.out, heatA_len]
        go_wp2_with fail
        refine (heatW_any A5 c5 w.heap.size (settleL L) j w5 ho5' hsz5 VS hj0 j1).mono ?_
        rintro e w6 ⟨rfl, ho6, hb6⟩
        rw [← HJJ.out] at ho6
        rw [← hl6] at hcap5 ⊢
        clear hl6
        have hb06 := hb05.trans hb6
        have hsz6 := hb06.size
        go_wp2_with fail
        refine (drain_any A5 c5 w.heap.size (heatJ L j) w6 ho6 hsz6 VH).mono ?_
        rintro e w7 ⟨rfl, ho7, hb7⟩
        have hb07 := hb06.trans hb7
        have hl7 : (drainA (heatJ L j)).2.length = (heatJ L j).length := drainA_len _
        rw [← hl7] at hcap5 ⊢
        clear hl7
        obtain ⟨q0, q1⟩ := HW.out
        rw [show (drainA (heatJ L j)).1 = stepW L j from rfl]
        go_wp2_with fail
        refine (changedForms_any A5 c5 (drainA (heatJ L j)).2 w7 ho7.rd VD).mono ?_
        rintro e w8 ⟨A8, c8, rfl, hcap8, ho8, hb8⟩
        go_wp2_with fail
        go_roundw
        case rel => exact HN.out A8 c8 _ _ w8 rfl rfl hcap8 (ho8.mono hb07.size) (bl_trans hb07 hb8)
        case measure => simp [intOf]; omega
      · have HJJ := Lib.hid (heatJ_n (ls := L) hj0)
        have hl6 : (heatJ L j).length = (settleL L).length := by rw [HJJ.out, heatA_len]
        go_wp2_with fail
        refine (heatC_any A5 c5 w.heap.size (settleL L) (-j) w5 ho5' hsz5 VS (by omega) (by omega)).mono ?_
        rintro e w6 ⟨rfl, ho6, hb6⟩
        rw [← HJJ.out] at ho6
        rw [← hl6] at hcap5 ⊢
        clear hl6
        have hb06 := hb05.trans hb6
        have hsz6 := hb06.size
        go_wp2_with fail
        refine (drain_any A5 c5 w.heap.size (heatJ L j) w6 ho6 hsz6 VH).mono ?_
        rintro e w7 ⟨rfl, ho7, hb7⟩
        have hb07 := hb06.trans hb7
        have hl7 : (drainA (heatJ L j)).2.length = (heatJ L j).length := drainA_len _
        rw [← hl7] at hcap5 ⊢
        clear hl7
        obtain ⟨q0, q1⟩ := HW.out
        rw [show (drainA (heatJ L j)).1 = stepW L j from rfl]
        go_wp2_with fail
        refine (changedForms_any A5 c5 (drainA (heatJ L j)).2 w7 ho7.rd VD).mono ?_
        rintro e w8 ⟨A8, c8, rfl, hcap8, ho8, hb8⟩
        go_wp2_with fail
        go_roundw
        case rel => exact HN.out A8 c8 _ _ w8 rfl rfl hcap8 (ho8.mono hb07.size) (bl_trans hb07 hb8)
        case measure => simp [intOf]; omega
    · obtain rfl : k = js.length := by omega
      rw [List.take_length] at *
      go_wp2_with fail
      go_ret3
      exact ⟨_, by rw [F.out.2.1, F.out.2.2]; rfl, ⟨A4, c4, by rw [F.out.1]; rfl, by rw [F.out.1]; exact ho4⟩, hb4⟩
set_option maxHeartbeats 2000000 in
theorem specRun_any (A : Option Addr) (c : Nat) (ls : List Ly) (D : Option Addr) (d : Nat) (js : List Int) (w : World) (hr : RdL w A ls) (hn : ls.length ≤ 1048576) (hi : RdI w D js) (hj : js.length ≤ 1048576) (hw : WfI js) :
    Calls Try.prog 30 #[.slice A ls.length c, .slice D js.length d] w (GivesLVC w (hoursR ls js) (hoursV ls js) (hoursC ls js)) := by
  rcases hok : okL ls with _ | _
  · have F := Lib.hid (hours_1 hok js)
    go_enter Try.func30, Try.ntmps30
    go_wp2_with (go_at_call 35; refine (l03Ok_any A c ls _ hr hn).mono ?_; rintro e w1 ⟨rfl, rfl⟩)
    go_ret3
    exact ⟨_, by rw [F.out.2.1, F.out.2.2]; rfl, ⟨none, 0, by rw [F.out.1]; rfl, .inl F.out.1⟩, Below.refl _ _⟩
  have HV := Lib.hid (VL.of_ok hok)
  have HWF := Lib.hid hw
  have HOK := Lib.hid hok
  clear hw
  go_enter Try.func30, Try.ntmps30
  go_wp2_with (go_at_call 35; refine (l03Ok_any A c ls _ hr hn).mono ?_; rintro e w1 ⟨rfl, rfl⟩)
  go_loopw [7] (fun i wr => ∃ k : Nat, k ≤ js.length ∧ i = .int .i64 k ∧ (js.take k).all jOk = true ∧ Below w.heap.size w wr) (fun i _ => js.length - (intOf i).toNat)
  case atStart => exact ⟨0, Nat.zero_le _, rfl, by simp, Below.refl _ _⟩
  case round =>
    obtain ⟨k, hk, rfl, ha, hb⟩ := hrel
    have HA := Lib.hid ha
    clear ha
    by_cases hlt : k < js.length
    · have hwf := HWF.out _ (List.getElem_mem hlt)
      obtain ⟨nj, hnj, hin⟩ := negw (wf_lo hwf) (wf_hi hwf)
      obtain ⟨g, o, rfl, hx⟩ := (hi.below hb).at_ k hlt
      rcases ho : jOk js[k] with _ | _
      · have F := Lib.hid (hours_2 hok (allJ_bad js k hlt ho))
        rw [ho] at hin
        go_wp2_with fail
        go_quiet (first | (go_at_call 59; first | exact quiet_any (l00Max_any _ _ _) | exact quiet_add_left (l00Max_any _ _ _)) | (go_at_call 51; first | exact quiet_any (l05Joules_any _ _) | exact quiet_add_left (l05Joules_any _ _)))
        go_wp2_with fail
        go_ret3
        exact ⟨_, by rw [F.out.2.1, F.out.2.2]; rfl, ⟨none, 0, by rw [F.out.1]; rfl, .inl F.out.1⟩, bl_drewN hb _⟩
      · have HB := Lib.hid (allJ_snoc js k hlt HA.out ho)
        rw [ho] at hin
        go_wp2_with fail
        go_quiet (first | (go_at_call 59; first | exact quiet_any (l00Max_any _ _ _) | exact quiet_add_left (l00Max_any _ _ _)) | (go_at_call 51; first | exact quiet_any (l05Joules_any _ _) | exact quiet_add_left (l05Joules_any _ _)))
        go_wp2_with fail
        go_roundw
        case rel => exact ⟨k + 1, by omega, by go_num, HB.out, bl_drewN hb _⟩
        case measure => simp [intOf]; omega
    · obtain rfl : k = js.length := by omega
      have hall := allJ_take js HA.out
      by_cases h64 : 64 < js.length
      · have F := Lib.hid (hours_7 hok hall h64)
        go_wp2_with fail
        go_ret3
        exact ⟨_, by rw [F.out.2.1, F.out.2.2]; rfl, ⟨none, 0, by rw [F.out.1]; rfl, .inl F.out.1⟩, hb⟩
      have F := Lib.hid (hours_0 hok hall h64)
      have HJ := Lib.hid (fun j hm => List.all_eq_true.1 hall j hm)
      clear hall
      go_wp2_with fail
      refine (l05Own_any A c ls wr (hr.below hb) hn).mono ?_
      rintro e w3 ⟨v3, rfl, hs3, hb3⟩
      obtain ⟨A3, c3, rfl, ho3⟩ := hs3.out
      have h0 : RunR w ls js (.slice A3 ls.length c3) (.int .i64 0) (.int .i64 0) w3 := RunR.start hs3.cap (ho3.mono hb.size) (bl_trans hb hb3)
      clear hs3 ho3
      go_wp2_with fail
      go_loopw [8, 9, 10] (RunR w ls js) (fun _ _ i _ => js.length - (intOf i).toNat)
      case atStart => exact h0
      case round =>
        clear h0
        obtain ⟨k, hk, rfl, rfl, ⟨A4, c4, rfl, hcap4, ho4⟩, hb4⟩ := hrel
        obtain ⟨V4, s0, s1⟩ := hours_bd HV.out js HJ.out k hk
        by_cases hlt : k < js.length
        · have HN := Lib.hid (fun A c L S w2 hL hS hcap ho hb => RunR.next (w := w) (w2 := w2) (ls := ls) (js := js) (A := A) (c := c) (k := k) (L := L) (S := S) hlt hL hS hcap ho hb)
          obtain ⟨g, o, rfl, hx⟩ := (hi.below hb4).at_ k hlt
          obtain ⟨j0, j1⟩ := inB_yes (HJ.out js[k] (List.getElem_mem _))
          have hk64 : k ≤ 64 := by omega
          clear hk
          generalize hoursF ls (js.take k) = h at *
          generalize js[k] = j at *
          obtain ⟨L, S⟩ := h
          have HW := stepW_bd V4 j0 j1
          obtain ⟨q0, q1⟩ := HW
          dsimp only at *
          go_wp2_with fail
          clear hx
          refine (l05Step_any A4 c4 L j _ ho4.rd V4 hcap4 j0 j1).mono ?_
          rintro e w5 ⟨v5, rfl, ⟨A5, c5, rfl, hcap5, ho5⟩, hb5⟩
          go_wp2_with fail
          go_roundw
          case rel => exact HN.out A5 c5 _ _ w5 rfl rfl hcap5 (ho5.mono hb4.size) (bl_trans hb4 hb5)
          case measure => simp [intOf]; omega
        · obtain rfl : k = js.length := by omega
          rw [List.take_length] at *
          go_wp2_with fail
          go_ret3
          exact ⟨_, by rw [F.out.2.1, F.out.2.2]; rfl, ⟨A4, c4, by rw [F.out.1]; rfl, by rw [F.out.1]; exact ho4⟩, hb4⟩
theorem step_1 (ls : List Ly) (j : Int) : (hoursF ls [j]).l = stepL ls j ∧ (hoursF ls [j]).s = stepW ls j := ⟨rfl, by show 0 + stepW ls j = _; omega⟩
theorem all_1 (j : Int) : [j].all jOk = jOk j := by simp
set_option maxHeartbeats 1000000 in
theorem specStep_any (A : Option Addr) (c : Nat) (ls : List Ly) (j : Int) (w : World) (hr : RdL w A ls) (hn : ls.length ≤ 1048576) (hc : ls.length ≤ c) (hw : (Lit.int .i64 j).wf = true) :
    Calls Try.prog 28 #[.slice A ls.length c, .int .i64 j] w (GivesLVC w (hoursR ls [j]) (hoursV ls [j]) (hoursC ls [j])) := by
  rcases hok : okL ls with _ | _
  · have F := Lib.hid (hours_1 hok [j])
    go_enter Try.func28, Try.ntmps28
    go_wp2_with (go_at_call 35; refine (l03Ok_any A c ls _ hr hn).mono ?_; rintro e w1 ⟨rfl, rfl⟩)
    go_ret3
    exact ⟨_, by rw [F.out.2.1, F.out.2.2]; rfl, ⟨none, 0, by rw [F.out.1]; rfl, .inl F.out.1⟩, Below.refl _ _⟩
  have V := VL.of_ok hok
  obtain ⟨nj, hnj, hin⟩ := negw (wf_lo hw) (wf_hi hw)
  rcases ho : jOk j with _ | _
  · have F := Lib.hid (hours_2 hok ((all_1 j).trans ho))
    rw [ho] at hin
    go_enter Try.func28, Try.ntmps28
    go_wp2_with (first | (go_at_call 35; refine (l03Ok_any A c ls _ hr hn).mono ?_; rintro e w1 ⟨rfl, rfl⟩) | (go_at_call 59; refine (l00Max_any _ _ _).mono ?_; rintro e w1 ⟨rfl, rfl⟩) | (go_at_call 51; refine (l05Joules_any _ _).mono ?_; rintro e w1 ⟨rfl, rfl⟩))
    go_ret3
    exact ⟨_, by rw [F.out.2.1, F.out.2.2]; rfl, ⟨none, 0, by rw [F.out.1]; rfl, .inl F.out.1⟩, Below.refl _ _⟩
  have F := Lib.hid (hours_0 hok ((all_1 j).trans ho) (by simp : ¬ 64 < [j].length))
  have E := Lib.hid (step_1 ls j)
  obtain ⟨j0, j1⟩ := inB_yes ho
  rw [ho] at hin
  go_enter Try.func28, Try.ntmps28
  go_wp2_with (first | (go_at_call 35; refine (l03Ok_any A c ls _ hr hn).mono ?_; rintro e w1 ⟨rfl, rfl⟩) | (go_at_call 59; refine (l00Max_any _ _ _).mono ?_; rintro e w1 ⟨rfl, rfl⟩) | (go_at_call 51; refine (l05Joules_any _ _).mono ?_; rintro e w1 ⟨rfl, rfl⟩))
  refine (l05Step_any A c ls j _ hr V hc j0 j1).mono ?_
  rintro e w5 ⟨v5, rfl, ⟨A5, c5, rfl, hcap5, ho5⟩, hb5⟩
  go_wp2_with fail
  go_ret3
  exact ⟨_, by rw [F.out.2.1, F.out.2.2, E.out.2]; rfl, ⟨A5, c5, by rw [F.out.1, E.out.1]; rfl, by rw [F.out.1, E.out.1]; exact ho5⟩, hb5⟩
theorem RdI.box (w : World) (j : Int) (t : TypeId) : RdI (w.alloc (.cells #[.int .i64 j] t)) (some ⟨w.heap.size, 0, none⟩) [j] := fun k x hx => by
  match k, hx with
  | 0, hx =>
    injection hx with hx
    subst hx
    exact ⟨_, 0, rfl, (cell_of_row _ _ _ _ _ (0, 0) (heap_alloc_new w _)).trans rfl⟩
set_option maxHeartbeats 1000000 in
theorem implStep_any (A : Option Addr) (c : Nat) (ls : List Ly) (j : Int) (w : World) (hr : RdL w A ls) (hn : ls.length ≤ 1048576) (hc : ls.length ≤ c) :
    Calls Try.prog 29 #[.slice A ls.length c, .int .i64 j] w (GivesLVC w (hoursR ls [j]) (hoursV ls [j]) (hoursC ls [j])) := by
  have hb0 := bl_alloc (Below.refl w.heap.size w) (.cells #[.int .i64 j] 2)
  have hI := RdI.box w j 2
  go_enter Try.func29, Try.ntmps29
  go_wp2_with fail
  refine (implRun_any A c ls _ 1 [j] _ (hr.below hb0) hn hI (by simp)).mono ?_
  rintro e w5 ⟨v5, rfl, ⟨A5, c5, rfl, ho5⟩, hb5⟩
  go_wp2_with fail
  go_ret3
  exact ⟨_, rfl, ⟨A5, c5, rfl, ho5.mono hb0.size⟩, bl_trans hb0 hb5⟩
end Go.Proofs.Ytnlikinckmoomaa
