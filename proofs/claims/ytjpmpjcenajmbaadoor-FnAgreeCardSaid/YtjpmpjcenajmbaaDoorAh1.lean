/- What the drawing of a single number and a count gives; whether a wide number fits; the program's DyadSquare. -/
import Derived.Test.YtjpmpjcenajmbaaDoorMAi
import Derived.Test.YtjpmpjcenajmbaaDoorFb4
import Derived.Test.YtjpmpjcenajmbaaDoorMFo
import Derived.Test.YtjpmpjcenajmbaaDoorMFd
namespace Go.Proofs.YtjpmpjcenajmbaaDoor
set_option linter.unusedSimpArgs false
set_option linter.unusedVariables false
open Go.RowKit Eng
attribute [local go_sem] Oper.semAt_some
section
variable {pv : Int → Int → Int} {v0 : Value}
theorem l91Most_any (B : Nat) (p : Int) (w : World) (hr : Rd pv v0 w B p) (hp : p ≤ 1000) :
    Calls Tryd.prog 48 #[.pointer (some ⟨B, 0, none⟩)] w fun e w' => ∃ m : Int, e = .returned (.int .i64 m) ∧ Picked B w w' ∧ -1000 ≤ m ∧ m ≤ 1000 := by
  have hB := hr.lt
  have hne : ¬ w.heap.size = B := by omega
  have hp0 := hr.nonneg
  have HR := Lib.hid hr; clear hr
  go_enter Tryd.func48, Tryd.ntmps48
  go_wp2_with fail
  refine (pick_any _ B p _ (HR.out) (by omega)).mono ?_
  rintro e u1 ⟨x1, rfl, x1_0, x1_1, -, hp1, hr1, -⟩
  replace x1_1 := x1_1 (by omega)
  have HP1 := Lib.hid hp1
  have HR1 := Lib.hid hr1; clear hr1 hp1
  go_wp2_with fail
  refine (pick_any _ B _ _ HR1.out (by omega)).mono ?_
  rintro e u2 ⟨x2, rfl, x2_0, x2_1, -, hp2, hr2, -⟩
  replace x2_1 := x2_1 (by omega)
  have HP2 := Lib.hid (HP1.out.trans hp2)
  have HR2 := Lib.hid hr2; clear hr2 hp2
  go_wp2_with fail
  refine (pick_any _ B _ _ HR2.out (by omega)).mono ?_
  rintro e u3 ⟨x3, rfl, x3_0, x3_1, -, hp3, hr3, -⟩
  replace x3_1 := x3_1 (by omega)
  have HP3 := Lib.hid (HP2.out.trans hp3)
  clear hr3 hp3
  have e2 : x2.tdiv 19 = x2 / 19 := Int.tdiv_eq_ediv_of_nonneg x2_0
  have e3 : x3.tdiv 19 = x3 / 19 := Int.tdiv_eq_ediv_of_nonneg x3_0
  have b2 : 0 ≤ x2 / 19 ∧ x2 / 19 ≤ 1 := by omega
  have b3 : 0 ≤ x3 / 19 ∧ x3 / 19 ≤ 1 := by omega
  go_wp2_with fail
  go_returns
  exact ⟨_, rfl, HP3.out, by omega, by omega⟩
end
theorem DrawAgreeCount_any (v : Value) (w : World) (hv : BytesOk w w.heap.size v) :
    Calls Tryd.prog 5 #[v] w fun e w' => ∃ (a b : Nat) (m : Int), e = .returned (.tuple #[.complex .f32 a b, .int .i64 m]) ∧ Below w.heap.size w w' ∧ -1000 ≤ m ∧ m ≤ 1000 := by
  obtain ⟨q, len, cap, pv, rfl, hb⟩ := hv.cut
  have g1 : len ≤ cap ∨ len = 0 := by
    rcases hv with ⟨a, c, h⟩ | ⟨b, off, l, c, f, h, h1, h2, _⟩
    · cases h; exact .inr rfl
    · cases h; exact .inl h1
  have g2 : len = 0 ∨ cap ≤ 9223372036854775807 := by
    rcases hv with ⟨a, c, h⟩ | ⟨b, off, l, c, f, h, h1, h2, _⟩
    · cases h; exact .inl rfl
    · cases h; exact .inr h2
  have g3 : len = 0 ∨ ∃ b off, q = some ⟨b, off, none⟩ := by
    rcases hv with ⟨a, c, h⟩ | ⟨b, off, l, c, f, h, h1, h2, _⟩
    · cases h; exact .inl rfl
    · cases h; exact .inr ⟨b, off, rfl⟩
  have HB := Lib.hid hb
  have G1 := Lib.hid g1; have G2 := Lib.hid g2; have G3 := Lib.hid g3
  clear hv hb g1 g2 g3
  have two : ∀ w : World, BytesV pv w w.heap.size (.slice q (min len 2000) cap) → Calls Tryd.prog 20 #[.slice q len cap] w fun e w' => ∃ (a b : Nat) (m : Int), e = .returned (.tuple #[.complex .f32 a b, .int .i64 m]) ∧ Below w.heap.size w w' ∧ -1000 ≤ m ∧ m ≤ 1000 := by
    intro w hb
    have HB := Lib.hid hb
    clear hb
    go_enter Tryd.func20, Tryd.ntmps20
    go_wp2_with fail
    refine (l6Open_any q len cap _ G1.out G2.out G3.out).mono ?_
    rintro e u1 ⟨B, rfl, hl, hb1, hblk⟩
    have hr : Rd pv (.slice q (min len 2000) cap) u1 B 0 := Rd.mk' rfl (HB.out.kept hl (fun k hk => hb1.block k hk)) hblk (by omega)
    have HR := Lib.hid hr
    have HB1 := Lib.hid hb1
    clear hb1 hblk hr
    go_wp2_with fail
    refine (l91C_any B 0 _ HR.out (by omega)).mono ?_
    rintro e u2 ⟨a, b, rfl, hp2, p2, q1, q2, hr2⟩
    obtain ⟨x, y, u3, hn, hd⟩ := narrow_run a b u2
    have HP3 := Lib.hid (hd.2.1 _ _ hp2)
    have HR3 := Lib.hid (hd.2.2 _ _ _ _ hr2)
    clear hp2 hr2 hd
    go_wp2_with fail
    refine (l91Most_any B p2 _ HR3.out (by omega)).mono ?_
    rintro e u4 ⟨m, rfl, hp4, m1, m2⟩
    have HP4 := Lib.hid (HP3.out.trans hp4)
    have HB4 := Lib.hid (HB1.out.trans (HP4.out.to_below hl HB1.out.size))
    clear hp4
    go_wp2
    go_returns
    exact ⟨x, y, m, rfl, HB4.out, m1, m2⟩
  have TWO := Lib.hid (two w HB.out)
  clear two
  go_enter Tryd.func5, Tryd.ntmps5
  go_wp2_with fail
  refine TWO.out.mono ?_
  rintro e u1 ⟨a, b, m, rfl, hb1, m1, m2⟩
  have HB1 := Lib.hid hb1
  clear hb1
  go_wp2
  go_returns
  exact ⟨a, b, m, rfl, HB1.out, m1, m2⟩
/-! The widened words are words. -/
theorem widen_lt {x X : Nat} (h : cvI .f32 x = some X) : X < 18446744073709551616 := by
  unfold cvI at h
  split at h
  · cases h
  · injection h with h
    rw [← h]
    rename_i s _
    cases s <;> decide
  · split at h
    · cases h
    · injection h with h
      rw [← h]
      exact Ieee.Format.write_lt _ _
theorem widen_big (x : Nat) (w : World) : ∃ y w', (Conv.floatToFloat .f32 x .f64).run Tryd.prog w = .ok (.float .f64 y) w' ∧ Drawn w w' ∧ ArF Ieee.double (cvI .f32 x) y ∧ y < 18446744073709551616 := by
  obtain ⟨y, w', h1, h2, h3⟩ := widen_part x w
  rcases h3 with h3 | ⟨h3, hn⟩
  · exact ⟨y, w', h1, h2, .inl h3, widen_lt h3⟩
  · have hx : IsN Ieee.single x := by
      rcases read_cases _ Fl.std1 x with ⟨a, ha⟩ | ⟨s, hs⟩ | hx
      · obtain ⟨X, e, -⟩ := widen_V ha; rw [e] at h3; cases h3
      · rw [cv_inf hs] at h3; cases h3
      · exact hx
    refine ⟨_, w.drew, ?_, fun B => (Below.refl _ _).drew, .inr ⟨h3, nanD_isN (w.tape w.drawn (.nanConv .f64 x))⟩, nanW_lt _⟩
    obtain ⟨s, t, hx⟩ := hx
    unfold Conv.floatToFloat
    rw [if_neg (by decide), show FloatKind.decode .f32 x = .nan s t from hx]; rfl
def WidB (x y : Nat) (w : World) (e : Ending) (w' : World) : Prop := ∃ X Y, e = .returned (.complex .f64 X Y) ∧ Drawn w w' ∧ ArF Ieee.double (cvI .f32 x) X ∧ ArF Ieee.double (cvI .f32 y) Y ∧ X < 18446744073709551616 ∧ Y < 18446744073709551616
theorem inWidth_big (x y : Nat) (w : World) : Calls Tryd.prog 28 #[.complex .f32 x y] w (WidB x y w) := by
  obtain ⟨a, w1, h1, k1, l1, m1⟩ := widen_big x w
  obtain ⟨b, w2, h2, k2, l2, m2⟩ := widen_big y w1
  have h : (convert 23 27 (.complex .f32 x y)).run Tryd.prog w = .ok (.complex .f64 a b) w2 := by
    unfold convert
    simp only [Sem.run_bind, run_underlying' Tryd.underlying23, run_underlying' Tryd.underlying27, Result.andThen_ok]
    unfold Conv.complexToComplex
    simp only [Sem.run_bind, h1, h2, Result.andThen_ok]
    rfl
  have H : Hid (WidB x y w (.returned (.complex .f64 a b)) w2) := Lib.hid ⟨a, b, rfl, k1.trans k2, l1, l2, m1, m2⟩
  clear h1 k1 l1 m1 h2 k2 l2 m2
  go_enter Tryd.func28, Tryd.ntmps28
  go_wp2
  go_returns
  exact H.out
theorem impl_Widen_big (x y : Nat) (w : World) : Calls Tryd.prog 8 #[.complex .f32 x y] w (WidB x y w) := by
  go_enter Tryd.func8, Tryd.ntmps8
  go_wp2_with fail
  refine (inWidth_big x y _).mono ?_
  rintro e w1 ⟨X, Y, rfl, h⟩
  have H : Hid (WidB x y w (.returned (.complex .f64 X Y)) w1) := Lib.hid ⟨X, Y, rfl, h⟩
  clear h
  go_wp2
  go_returns
  exact H.out
/-- A number that fits. -/
theorem Fits_yes (x y p q p' q' : Nat) (w : World) (h1 : cvI .f64 x = some p) (h2 : cvI .f32 p = some p') (h3 : Ieee.double.order x p' = some .eq) (k1 : cvI .f64 y = some q) (k2 : cvI .f32 q = some q') (k3 : Ieee.double.order y q' = some .eq) :
    Calls Tryd.prog 10 #[.complex .f64 x y] w fun e w' => e = .returned (.bool true) ∧ Drawn w w' := by
  have e1 : FloatKind.f64.format.order x p' = some .eq := h3
  have e2 : FloatKind.f64.format.order y q' = some .eq := k3
  have H1 := Lib.hid h1; have H2 := Lib.hid h2; have K1 := Lib.hid k1; have K2 := Lib.hid k2
  clear h1 h2 h3 k1 k2 k3
  have nar : ∀ u v v', cvI .f64 u = some v → Nrr u v' → v' = v := fun u v v' h hn => by
    rcases hn with hn | ⟨hn, -⟩
    · rw [h] at hn; injection hn with hn; exact hn.symm
    · rw [h] at hn; cases hn
  have wid : ∀ u v v', cvI .f32 u = some v → ArF Ieee.double (cvI .f32 u) v' → v' = v := fun u v v' h hn => by
    rcases hn with hn | ⟨hn, -⟩
    · rw [h] at hn; injection hn with hn; exact hn.symm
    · rw [h] at hn; cases hn
  have NAR := Lib.hid nar; have WID := Lib.hid wid
  clear nar wid
  go_enter Tryd.func10, Tryd.ntmps10
  go_wp2_with fail
  refine (impl_Narrow_any x y _).mono ?_
  rintro e u1 ⟨X, Y, rfl, hd1, n1, n2⟩
  obtain rfl := NAR.out _ _ _ H1.out n1
  obtain rfl := NAR.out _ _ _ K1.out n2
  have HD1 := Lib.hid hd1
  clear hd1 n1 n2
  go_wp2_with fail
  refine (impl_Widen_any X Y _).mono ?_
  rintro e u2 ⟨X', Y', rfl, hd2, n1, n2⟩
  obtain rfl := WID.out _ _ _ H2.out n1
  obtain rfl := WID.out _ _ _ K2.out n2
  have HD2 := Lib.hid (HD1.out.trans hd2)
  clear hd2 n1 n2
  go_wp2
  go_returns
  exact ⟨rfl, HD2.out⟩
theorem iSq_any (r i s : Int) (w : World) : Calls Tryd.prog 14 #[.agg #[.int .i64 r, .int .i64 i, .int .i64 s]] w (Gives (.tuple #[.agg #[.int .i64 (dq0 r i s), .int .i64 (dq1 r i s), .int .i64 (dq2 r i s)], .bool (SQ r i s)]) w) :=
  (ok_iSq (pv := fun _ _ => 0) w).2 [r, i, s] rfl (fun c hc => by cases hc) w (Hb.refl _)
end Go.Proofs.YtjpmpjcenajmbaaDoor
