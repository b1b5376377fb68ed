/- The law FnExactWide: exact orbits are wide orbits: its walk, its row and its card. -/
import Derived.Test.YtjpmpjcenajmbaaDoorMOx
import Derived.Test.YtjpmpjcenajmbaaDoorMFo
import Derived.Test.YtjpmpjcenajmbaaDoorMBj
import Derived.Test.YtjpmpjcenajmbaaDoorRowT
import Derived.Test.YtjpmpjcenajmbaaDoorRowB
namespace Go.Proofs.YtjpmpjcenajmbaaDoor
set_option linter.unusedSimpArgs false
set_option linter.unusedVariables false
open Go.ChangeShapes Go.WideShapes Go.ChangeAt Go.RowKit Go.Joins Eng
theorem OL_le (a b c n : Int) : OL a b c n ≤ 40 := by
  unfold OL
  split
  · rename_i h
    have h2 := (olen_ok a b c n.toNat 0).2.1
    unfold OV at h
    simp only [Bool.and_eq_true, decide_eq_true_eq] at h
    omega
  · omega
theorem OL_no {a b c n : Int} (h : OV a b c n = false) : OL a b c n = 0 := by
  unfold OL; rw [h]; rfl
theorem OV_dv {a b c n : Int} (h : OV a b c n = true) : DV a b c = true := by
  unfold OV at h
  simp only [Bool.and_eq_true, decide_eq_true_eq] at h
  exact h.1
theorem OL_ok {a b c n : Int} (h : OV a b c n = true) {i : Nat} (hi : i + 1 < OL a b c n) : ook a b c i = true := by
  unfold OL at hi
  rw [h] at hi
  exact (olen_ok a b c n.toNat 0).2.2 i (by omega) hi
theorem iBits_any (n m s : Int) (w : World) (hT : Tb w) : Calls Tryd.prog 13 #[.agg #[.int .i64 n, .int .i64 m, .int .i64 s]] w (Gives (.tuple #[.int .i64 (if DV n m s then max (BT n) (BT m) else 0), .bool (DV n m s)]) w) :=
  (ok_iBits (pv := fun _ _ => 0) w hT).2 [n, m, s] rfl (fun c hc => by cases hc) w (Hb.refl _)
theorem Alike_yes (x y a b : Nat) (w : World) (h1 : Ieee.double.order x a = some .eq) (h2 : Ieee.double.order y b = some .eq) :
    Calls Tryd.prog 19 #[.complex .f64 x y, .complex .f64 a b] w fun e w' => e = .returned (.bool true) ∧ w = w' := by
  have k1 : FloatKind.f64.format.order x a = some .eq := h1
  have k2 : FloatKind.f64.format.order y b = some .eq := h2
  clear h1 h2
  go_enter Tryd.func19, Tryd.ntmps19
  go_wp2
  go_returns
  exact ⟨rfl, rfl⟩
theorem fnExactWide_walk (v : Value) (w : World) (hv : BytesOk w w.heap.size v) (hT : Tb w) :
    Calls Tryd.prog 4 #[v] w (Gives (.bool true) w) := by
  have HV := Lib.hid hv
  have HT := Lib.hid hT
  clear hT
  obtain ⟨q, len, cap, rfl, hlen⟩ : ∃ (a : Option Addr) (len cap : Nat), v = .slice a len cap ∧ len ≤ 9223372036854775807 := by
    rcases hv with ⟨a, c, rfl⟩ | ⟨b, off, len, cap, f, rfl, h1, h2, _⟩
    · exact ⟨a, 0, c, rfl, by omega⟩
    · exact ⟨_, len, cap, rfl, by omega⟩
  clear hv
  by_cases hl : 1048576 < len
  · go_enter Tryd.func4, Tryd.ntmps4
    go_wp2
    go_returns
    exact ⟨rfl, Below.refl _ _⟩
  · go_enter Tryd.func4, Tryd.ntmps4
    go_wp2_with fail
    refine (DrawDyadOrbit_any _ _ HV.out).mono ?_
    rintro e u1 ⟨a, b, c, n, rfl, hB1⟩
    have hw1 := hB1.size
    obtain ⟨hc1, hf1⟩ := bcell hB1
    go_wp2_with fail
    refine (iOrb_calls a b c n _).mono ?_
    rintro e u2 ⟨hb, B1, cap1, rfl, hz1, hq1, hl1⟩
    have hB2 : Below w.heap.size w u2 := Below.trans (by go_grown) (hb.mono (by go_size))
    have hz2 := hb.size
    simp at hz2
    have hw2 := hB2.size
    obtain ⟨hc2, hf2⟩ := bcell hb
    clear hb
    have s_1_2 : u1.heap.size < u2.heap.size := by omega
    go_wp2_with fail
    refine (sOrb_calls a b c n _).mono ?_
    rintro e u3 ⟨hb, B2, cap2, rfl, hz3, hq2, hl2⟩
    have hB3 : Below w.heap.size w u3 := Below.trans (by go_grown) (hb.mono (by go_size))
    have hz4 := hb.size
    try simp at hz4
    have hw3 := hB3.size
    obtain ⟨hc3, hf3⟩ := bcell hb
    have hL1 := hl1.below hb
    clear hb hl1
    have HL1 := Lib.hid hL1; have HL2 := Lib.hid hl2
    clear hL1 hl2
    have hL := OL_le a b c n
    cases hov : OV a b c n
    · go_wp2_with fail
      refine (sameDyads_yes a b c (OL a b c n) B1 cap1 B2 cap2 _ HL1.out HL2.out (by omega) hq1).mono ?_
      rintro e u4 ⟨rfl, hb⟩
      have hB4 : Below w.heap.size w u4 := Below.trans (by go_grown) (hb.mono (by go_size))
      have HL3 := Lib.hid (HL1.out.below hb); have HL4 := Lib.hid (HL2.out.below hb)
      have hz5 := hb.size
      clear hb
      go_wp2_with fail
      refine (sameDyads_yes a b c (OL a b c n) B1 cap1 B2 cap2 _ HL3.out HL4.out (by omega) hq1).mono ?_
      rintro e u5 ⟨rfl, hb⟩
      have hB5 : Below w.heap.size w u5 := Below.trans (by go_grown) (hb.mono (by go_size))
      clear hb
      go_wp2_with fail
      go_returns
      exact ⟨rfl, by go_grown⟩
    · have hdv := OV_dv hov
      go_wp2_with fail
      refine (sameDyads_yes a b c (OL a b c n) B1 cap1 B2 cap2 _ HL1.out HL2.out (by omega) hq1).mono ?_
      rintro e u4 ⟨rfl, hb⟩
      have hB4 : Below w.heap.size w u4 := Below.trans (by go_grown) (hb.mono (by go_size))
      have HL3 := Lib.hid (HL1.out.below hb)
      have hz5 := hb.size
      obtain ⟨hc4, hf4⟩ := bcell hb
      clear hb
      have s_1_3 : u1.heap.size < u3.heap.size := by omega
      have s_1_4 : u1.heap.size < u4.heap.size := by omega
      have HD := Lib.hid hdv; clear hdv
      go_wp2_with fail
      refine (iDWide_yes a b c HD.out _).mono ?_
      rintro e u5 ⟨rfl, hb⟩
      have hB5 : Below w.heap.size w u5 := Below.trans (by go_grown) (hb.mono (by go_size))
      have HL5 := Lib.hid (HL3.out.below hb)
      have hz6 := hb.size
      clear hb
      go_wp2_with fail
      refine (OrbitWide_any (Fl.DWn a c.toNat) (Fl.DWn b c.toNat) (OL a b c n) (by omega) _).mono ?_
      rintro e u6 ⟨rfl, hb, x, y, arr, ha, hs, X, Y, x0, y0, -, -, hst, hcs⟩
      have hB6 : Below w.heap.size w u6 := Below.trans (by go_grown) (hb.mono (by go_size))
      have HL6 := Lib.hid (HL5.out.below hb)
      have HB6 := Lib.hid hB6
      obtain ⟨r1, r2, r3⟩ := dv_rngF HD.out
      have hX : ∀ i, i < OL a b c n → Fl.V Ieee.double (X i) (Oz a b c i 0 * 2 ^ (1074 - (Oz a b c i 2).toNat)) ∧ Fl.V Ieee.double (Y i) (Oz a b c i 1 * 2 ^ (1074 - (Oz a b c i 2).toNat)) := fun i hi =>
        orbit_exact (DWn_V (by omega) r3) (DWn_V (by omega) r3) x0 y0 i (fun j hj => OL_ok hov (by omega)) (fun j hj => hst j (by omega))
      have hWd : ∀ (wr : World) i, Below u6.heap.size u6 wr → i < OL a b c n → wr.cell? ⟨u5.heap.size + 1, i, none⟩ = some (.complex .f64 (X i) (Y i)) := fun wr i hbr hi => by
        have hl6 : u5.heap.size + 1 < u6.heap.size := (Array.getElem?_eq_some_iff.1 ha).1
        unfold World.cell?
        simp only [hbr.block _ hl6, ha]
        exact hcs i hi
      have HX := Lib.hid hX; have HWd := Lib.hid hWd
      clear hX hWd hst hcs hb hB6 ha
      go_wp2
      go_loopw [13] (fun v wr => ∃ i : Nat, v = .int .i64 i ∧ i ≤ OL a b c n ∧ Below u6.heap.size u6 wr) (fun v _ => OL a b c n - (intOf v).toNat)
      case atStart => exact ⟨0, rfl, by omega, Below.refl _ _⟩
      case round =>
        obtain ⟨i, rfl, k1, hbr⟩ := hrel
        have hr6 := hbr.size
        by_cases hi : i < OL a b c n
        · have hcell : ∀ wr', Below u6.heap.size u6 wr' → wr'.cell? ⟨B1, i * 3, none⟩ = some (.int .i64 (Oz a b c i 0)) ∧ wr'.cell? ⟨B1, i * 3 + 1, none⟩ = some (.int .i64 (Oz a b c i 1)) ∧ wr'.cell? ⟨B1, i * 3 + 2, none⟩ = some (.int .i64 (Oz a b c i 2)) := fun wr' h =>
            ⟨(HL6.out.below h).cell hi (j := 0) (by omega), (HL6.out.below h).cell hi (j := 1) (by omega), (HL6.out.below h).cell hi (j := 2) (by omega)⟩
          obtain ⟨v1, v2⟩ := HX.out i hi
          have hd := oz_dv a b c i
          rw [show (oz a b c i).1 = Oz a b c i 0 from rfl, show (oz a b c i).2.1 = Oz a b c i 1 from rfl, show (oz a b c i).2.2 = Oz a b c i 2 from rfl] at hd
          generalize Oz a b c i 0 = z0 at *
          generalize Oz a b c i 1 = z1 at *
          generalize Oz a b c i 2 = z2 at *
          obtain ⟨t1, t2, t3⟩ := dv_rngF hd
          have o1 := Fl.V_eq (DWn_V (by omega) t3) v1
          have o2 := Fl.V_eq (DWn_V (by omega) t3) v2
          have HE := Lib.hid hd; have HC := Lib.hid hcell; have HO1 := Lib.hid o1; have HO2 := Lib.hid o2
          clear hd hcell v1 v2 t1 t2 o1 o2
          obtain ⟨a0, a1, a2⟩ := HC.out _ hbr
          go_wp2_with fail
          refine (iDWide_yes z0 z1 z2 HE.out _).mono ?_
          rintro e v1 ⟨rfl, hb⟩
          have hb1 : Below u6.heap.size u6 v1 := hbr.trans (hb.mono hr6)
          have hr1 := hb1.size
          have cw := HWd.out v1 i hb1 hi
          clear a0 a1 a2 hb
          go_wp2_with fail
          refine (Alike_yes _ _ _ _ _ HO1.out HO2.out).mono ?_
          rintro e v2 ⟨rfl, rfl⟩
          obtain ⟨a0, a1, a2⟩ := HC.out _ hb1
          have HT1 := Lib.hid ((HT.out.below HB6.out).below hb1)
          go_wp2_with fail
          refine (iBits_any z0 z1 z2 _ HT1.out).mono ?_
          rw [HE.out]
          rintro e v3 ⟨rfl, hb⟩
          have hb3 : Below u6.heap.size u6 v3 := hb1.trans (hb.mono hr1)
          clear hb a0 a1 a2
          go_wp2_with fail
          all_goals first
            | (go_returns; exact ⟨rfl, HB6.out.trans (hb3.mono HB6.out.size)⟩)
            | (go_roundw
               case rel => exact ⟨i + 1, by simp, by omega, hb3⟩
               case measure => simp [intOf]; omega)
        · go_wp2
          go_returns
          exact ⟨rfl, HB6.out.trans (hbr.mono HB6.out.size)⟩
theorem fnExactWide_laid (os : Os) : laidMet Tryd.prog Rows.fnExactWideRow.laid ((laidWorld os).forCall (fun _ _ => 0) ⟨#[], #[.slice none 0 0], []⟩).memory := laidMet_of_run' 8 (by kernel_rfl) (by kernel_rfl)
theorem fnExactWide_reads (os : Os) {H : Type} (enc : TypeId × Value → H) : ∃ places, DataW.whole enc Tryd.prog ((laidWorld os).forCall (fun _ _ => 0) ⟨#[], #[.slice none 0 0], []⟩).memory Tryd.f4.params.toList Rows.fnExactWideSpec.vars false #[Value.slice none 0 0].toList 8 = some ([.nil], [], places) := ⟨[], by kernel_rfl⟩
set_option maxRecDepth 100000 in
theorem fnExactWide_lifted (os : Os) (started : os.Started) (H : Type) (enc : TypeId × Value → H) (F : Stop.Interp) :
    ReturnsInHanded {} Tryd.checked os 4 .any ((OpenSpec.ofChange Rows.fnExactWideSpec).preRow enc Tryd.prog Tryd.f4 Rows.fnExactWideRow.domain false Rows.fnExactWideRow.laid) (((OpenSpec.ofChange Rows.fnExactWideSpec).at F).post enc Tryd.prog Tryd.f4 false true false false) := by
  obtain ⟨places, hx⟩ := fnExactWide_reads os enc
  refine returnsInHanded_of_row (C := Tryd.checked) (s := OpenSpec.ofChange Rows.fnExactWideSpec) Tryd.own started (by kernel_rfl) Tryd.func4
    (witness_row_at (enc := enc) (C := Tryd.checked) false (laidWorld os) #[.slice none 0 0] rfl (by kernel_rfl) (by kernel_rfl) (by kernel_rfl)
      (OpenSpec.preRow_of_cond 8 hx (by kernel_rfl) (fun k hk => by cases hk) (by kernel_rfl) (fnExactWide_laid os))) ?_
  intro W base args ds gs before hval0 hW _ _ _ hL _ _
  have hT : Tb W := tb_of hL
  have hval : ∀ (j : Nat) t v, Tryd.f4.params[j]? = some t → args[j]? = some v → Value.okWide Tryd.prog W .any base t v := hval0
  have hW' := hW
  obtain ⟨p, q, hA0, hV, rfl, hfz, hnd⟩ := hW
  have hA : DataW.TrodAll enc Tryd.prog W 0 (fun _ => true) true Tryd.f4.params.toList args.toList ds p := hA0
  rw [Tryd.params4] at hA hval
  obtain ⟨v0, vs0, d0, ds0, p0, q0, hargs, rfl, rfl, h0, r0⟩ := trodAll_cons hA
  obtain ⟨rfl, rfl, rfl⟩ := trodAll_nil r0
  obtain rfl : args = #[v0] := by cases args; simp_all
  obtain ⟨rfl, rfl⟩ := trodVars_none hV
  have k0 := h0
  have lt0 : ∀ x ∈ p0, x.block < W.heap.size := by obtain ⟨m, hm⟩ := k0; exact DataW.trod_lt m _ _ _ hm
  obtain ⟨a0, len0, cap0, rfl⟩ := okWide_slice Tryd.underlying22 (hval 0 22 v0 rfl rfl)
  have hb0 : BytesOk W W.heap.size (.slice a0 len0 cap0) := by
    obtain ⟨fuel, hf⟩ := h0
    exact bytes_of_ints (open_ints Tryd.underlying22 Tryd.underlying5 (by kernel_rfl) hf)
  clear hA0 hval0
  refine (fnExactWide_walk (.slice a0 len0 cap0) W hb0 hT).mono fun e W' ⟨he, bel⟩ => ?_
  subst he
  exact ⟨_, rfl, _, _, _, [], _, [], hW', trodAll_mk1 (shut_bool Tryd.underlying4 _), (trodAll_cons_mk (Below.trod Tryd.laidOut (by kernel_rfl) (of_decide_eq_true (by kernel_rfl)) k0 bel lt0) trodAll_mk0), rfl, bel.frame _, fun h => by cases h⟩

theorem fnExactWide_holds : Rows.FnExactWideSaid :=
  OpenClaim.holds_of_cond 4 Tryd.f4 rfl rfl rfl rfl rfl rfl rfl ⟨rfl, rfl, rfl, rfl, rfl⟩ rfl rfl rfl rfl rfl (by kernel_rfl) Tryd.func4 (by kernel_rfl)
    (of_decide_eq_true (by kernel_rfl)) (by unfold Func.isWrapper; first | (rw [if_pos (by decide +kernel)]; kernel_rfl) | (rw [if_neg (by decide +kernel)]; exact ⟨rfl, rfl⟩))
    (fun os started H enc _ F => by rw [OpenClaim.pre_eq_preRow]; exact fnExactWide_lifted os started H enc F)
theorem fnExactWide_plain (f : FuncId) (fn : Func) (hf : Tryd.pinned.checked.prog.funcNamed Rows.fnExactWideRow.func = some f) (hfn : Tryd.pinned.checked.prog.funcs[f]? = some fn) :
    false = Tryd.pinned.checked.prog.looks [] ∧ ∀ (j : Nat) t, fn.params[j]? = some t → Tryd.pinned.checked.prog.wantsStandIn t = false := by
  obtain rfl : f = 4 := Option.some.inj ((show Tryd.prog.funcNamed Rows.fnExactWideRow.func = some 4 by kernel_rfl).symm.trans hf) |>.symm
  obtain rfl : fn = Tryd.f4 := (Option.some.inj (Tryd.func4.symm.trans hfn)).symm
  refine ⟨by kernel_rfl, fun j t ht => ?_⟩
  rw [Tryd.params4] at ht
  have hm : t ∈ [22] := by simpa using Array.mem_of_getElem? ht
  have hall : ([22].all fun u => !Tryd.prog.wantsStandIn u) = true := by kernel_rfl
  exact (show Tryd.prog.wantsStandIn t = false by simpa using List.all_eq_true.1 hall t hm)
/-- The card. -/
theorem fnExactWide_card : Rows.FnExactWideCardSaid :=
  Claim7.holds_tied_plain_at .later [] _ _ _ _ fnExactWide_holds (fun _ h => by cases h) (by kernel_rfl) (fun _ h => by cases h) fnExactWide_row_tie rfl ⟨rfl, rfl⟩ (by kernel_rfl) rfl fnExactWide_plain (by kernel_rfl)
#print axioms fnExactWide_card
end Go.Proofs.YtjpmpjcenajmbaaDoor
