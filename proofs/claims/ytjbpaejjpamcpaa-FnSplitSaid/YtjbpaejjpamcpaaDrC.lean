/- What draws, for the reckoner: pick, boxes, exact numbers; and the walk of a law over bytes. -/
import Derived.Test.YtjbpaejjpamcpaaDraw
import Derived.Test.YtjbpaejjpamcpaaBoD
import Derived.Test.YtjbpaejjpamcpaaSig
import Derived.Test.YtjbpaejjpamcpaaLoop
namespace Go.Proofs.Ytjbpaejjpamcpaa
set_option linter.unusedSimpArgs false
set_option linter.unusedVariables false
variable {pv : Int → Int → Int}
open Go.RowKit Eng

theorem adv_ok (E : Env) (hi : E.fi = FI pv) : AdvOk E := by
  intro s j p r hs hj hp
  rw [hi]
  unfold FI
  rw [if_neg (by omega), if_pos hj]
  show 0 ≤ FDa pv s p ∧ FDa pv s p ≤ p + 8
  unfold FDa bxP
  repeat' split
  all_goals omega

def vv0 : SL := SL.of [vv 0]
def d_pick : DEnt := ⟨73, [0], oi (.app 1000 0 (SL.of [vv 0, vv 1])), .app 1000 100 vv0⟩
theorem turned_of {v0 : Value} {w w' : World} {B : Nat} {p : Int} (hp : Picked B w w') (hr : Rd pv v0 w' B p) : Turned v0 108 B p w w' := ⟨hp.os, hp.tape, hp.output, hp.size, hp.block, hr.blk⟩
theorem rd_of {v0 : Value} {w0 w : World} {B : Nat} {p : Int} (hv : v0.oneCell' = true) (hb : BytesV pv w0 w0.heap.size v0) (hw : Below w0.heap.size w0 w) (hB : w0.heap.size ≤ B) (h : w.heap[B]? = some (.cells #[v0, .int .i64 p] 108 (0, 0))) (hp : 0 ≤ p) : Rd pv v0 w B p :=
  Rd.mk' hv (hb.kept hB (fun k hk => hw.block k hk)) h hp
theorem dok_pick {w0 : World} {E : Env} (hi : E.fi = FI pv) (hb : BytesV pv w0 w0.heap.size (E.v 1)) : d_pick.ok Try.prog w0 E 108 := by
  intro p zs h0 h1 hz w B hw hB hblk
  obtain ⟨n, rfl⟩ := len1 hz
  refine (pick_any n B p w (rd_of (E.v1 1) hb (Hb.below hw) hB hblk h0) (by omega)).mono ?_
  rintro e w' ⟨x, rfl, -, -, -, hp, hr, rfl⟩
  refine ⟨?_, ?_⟩
  · show _ = Ending.returned (.int .i64 (E.fi 1000 0 [p, n])); rw [hi]; rfl
  · show Turned _ _ _ (E.fi 1000 100 [p]) _ _; rw [hi]; exact turned_of hp hr
def d_box : DEnt := ⟨50, [], .cv (og (oapps 1001 4 vv0)), .app 1001 100 vv0⟩
theorem dok_box {w0 : World} {E : Env} (hi : E.fi = FI pv) (hb : BytesV pv w0 w0.heap.size (E.v 1)) : d_box.ok Try.prog w0 E 108 := by
  intro p zs h0 h1 hz w B hw hB hblk
  obtain rfl : zs = [] := List.length_eq_zero_iff.1 hz
  refine (l92Box_any B p w (rd_of (E.v1 1) hb (Hb.below hw) hB hblk h0) (by omega)).mono ?_
  rintro e w' ⟨rfl, hp, hr⟩
  refine ⟨?_, ?_⟩
  · show _ = Ending.returned (.agg #[.int .i64 (E.fi 1001 0 [p]), .int .i64 (E.fi 1001 1 [p]), .int .i64 (E.fi 1001 2 [p]), .int .i64 (E.fi 1001 3 [p])]); rw [hi]; rfl
  · show Turned _ _ _ (E.fi 1001 100 [p]) _ _; rw [hi]; exact turned_of hp hr
def DD : List DEnt := [d_pick
  , d_box
  ]
theorem DD_ok {w0 : World} {E : Env} (hi : E.fi = FI pv) (hb : BytesV pv w0 w0.heap.size (E.v 1)) : ∀ e ∈ DD, e.ok Try.prog w0 E 108 := by
  unfold DD
  refine List.forall_mem_cons.2 ⟨dok_pick hi hb, ?_⟩
  refine List.forall_mem_cons.2 ⟨dok_box hi hb, ?_⟩
  exact fun e he => by cases he
def enD : List Nat := [73, 49, 50]
theorem enD_73 : Enters Try.prog 73 := enters_of Try.func73 rfl (by kernel_rfl)
theorem enD_49 : Enters Try.prog 49 := enters_of Try.func49 rfl (by kernel_rfl)
theorem enD_50 : Enters Try.prog 50 := enters_of Try.func50 rfl (by kernel_rfl)
theorem enD_ok : ∀ f ∈ enD, Enters Try.prog f := by
  intro f hf
  simp only [enD, List.mem_cons, List.not_mem_nil, or_false] at hf
  rcases hf with rfl | rfl | rfl
  · exact enD_73
  · exact enD_49
  · exact enD_50
/-- The letters of a law over bytes: their number; the bytes, as they came and as the reader bears them. -/
def envD (pv : Int → Int → Int) (p : Option Addr) (len cap : Nat) : Env :=
  { i := fun n => if n = 0 then len else 0, b := fun _ => false, v := fun n => if n = 0 then .slice p len cap else .slice p (min len 2000) cap, v1 := fun n => by split <;> rfl, fi := FI pv, fb := FB }
/-- A context in which numbers are drawn. -/
def drawn (X : Cx) : Cx := { X with D := DD, rd := some (49, 108), en := X.en ++ enD }
theorem drawn_ok {X : Cx} (hP : X.P = Try.prog) {w : World} {p : Option Addr} {len cap : Nat} (hX : XOk X w (envD pv p len cap)) (hb : BytesOk w w.heap.size (.slice p len cap)) (hv : BytesV pv w w.heap.size (.slice p (min len 2000) cap)) : XOk (drawn X) w (envD pv p len cap) := by
  refine ⟨hX.g, fun f hf => ?_, hX.call, hX.l, fun op rt h => ?_, hX.r, hX.x, hX.w⟩
  · rcases List.mem_append.1 hf with h | h
    · exact hX.en f h
    · show Enters X.P f
      rw [hP]; exact enD_ok f h
  · simp only [drawn, Option.some.injEq, Prod.mk.injEq] at h
    obtain ⟨rfl, rfl⟩ := h
    refine ⟨⟨p, len, cap, rfl, rfl⟩, fun w' hw => ?_, fun e he => ?_, adv_ok _ rfl, rfl⟩
    · show Calls X.P _ #[.slice p len cap] w' _
      rw [hP]
      rcases hb with ⟨a, c, h⟩ | ⟨b, off, l, c, f, h, h2, h3, -⟩
      · simp only [Value.slice.injEq] at h
        obtain ⟨rfl, rfl, rfl⟩ := h
        exact l6Open_any p 0 cap w' (Or.inr rfl) (Or.inl rfl) (Or.inl rfl)
      · simp only [Value.slice.injEq] at h
        obtain ⟨rfl, rfl, rfl⟩ := h
        exact l6Open_any _ len cap w' (Or.inl h2) (Or.inr h3) (Or.inr ⟨_, _, rfl⟩)
    · show e.ok X.P _ _ _
      rw [hP]; exact DD_ok rfl hv e he
theorem pickV_ok {len : Nat} {f : Nat → Int} (hf : ∀ i, 0 ≤ f i ∧ f i ≤ 255) : PvOk (pickV len f) := by
  intro p n hp hbig hn
  unfold pickV
  rw [if_neg (by omega)]
  split
  · omega
  split
  · exact ⟨Int.emod_nonneg _ (by omega), Int.emod_lt_of_pos _ (by omega)⟩
  · have a := hf (p.toNat % len); have b := hf ((p.toNat * 7 + 3) % len)
    have q0 : 0 ≤ p / len := Int.ediv_nonneg (by omega) (by omega)
    have q1 : p / len ≤ p := Int.ediv_le_self _ (by omega)
    have h0 : 0 ≤ mixV len f p := by unfold mixV; omega
    have h1 : mixV len f p < 9223372036854775808 := by unfold mixV; omega
    have hx := xor_nn (mixV len f p) (mixV len f p / 64) h0 (by omega) h1 (by omega)
    exact ⟨Int.tmod_nonneg _ hx, Int.tmod_lt_of_pos _ (by omega)⟩
theorem BytesV.pvOk {w : World} {B : Nat} {v : Value} (h : BytesV pv w B v) : PvOk pv := by
  intro p n hp hb hn
  rcases h with ⟨-, h⟩ | ⟨b, off, len, cap, f, -, -, -, hf, -, h⟩
  · rw [h]; omega
  · rw [h]; exact pickV_ok hf p n hp hb hn
/-- A law over bytes: where all its ways are live and end with 'true', it returns 'true'. -/
theorem dlaw {X : Cx} (hP : X.P = Try.prog) (hX : ∀ (pv : Int → Int → Int) (w : World) (E : Env), E.fi = FI pv → E.fb = FB → XOk X w E) {fuel L d : Nat} {t : Tree} (ht : explore (drawn X) fuel L [.cv (.one (.opq 0))] d [] = t)
    (h : ∀ (pv : Int → Int → Int) (p : Option Addr) (len cap : Nat), PvOk pv → t.den (envD pv p len cap) = some (.bool true)) (v : Value) (w : World) (hv : BytesOk w w.heap.size v) : Calls Try.prog L #[v] w (Gives (.bool true) w) := by
  obtain ⟨p, len, cap, pv, rfl, hc⟩ := hv.cut
  have hXD := drawn_ok hP (hX pv w (envD pv p len cap) rfl rfl) hv hc
  have := explore_ok (v := .bool true) hXD (by show X.P.follows _ = true; rw [hP]; exact mixed) (fuel := fuel) (f := L) (args := [.cv (.one (.opq 0))]) d [] (fun p hp => by cases hp) (by rw [ht]; exact h pv p len cap hc.pvOk)
  have e : (drawn X).P = Try.prog := hP
  rw [e] at this
  exact this
theorem dlawR {X : Cx} (hP : X.P = Try.prog) (hX : ∀ (pv : Int → Int → Int) (w : World) (E : Env), E.fi = FI pv → E.fb = FB → XOk X w E) {fuel L : Nat} {t : Tree} (ht : Runs (drawn X) fuel L [.cv (.one (.opq 0))] t [])
    (h : ∀ (pv : Int → Int → Int) (p : Option Addr) (len cap : Nat), PvOk pv → t.den (envD pv p len cap) = some (.bool true)) (v : Value) (w : World) (hv : BytesOk w w.heap.size v) : Calls Try.prog L #[v] w (Gives (.bool true) w) := by
  obtain ⟨p, len, cap, pv, rfl, hc⟩ := hv.cut
  have hXD := drawn_ok hP (hX pv w (envD pv p len cap) rfl rfl) hv hc
  have := runs_ok hXD (by show X.P.follows _ = true; rw [hP]; exact mixed) t [] (fun p hp => by cases hp) ht (h pv p len cap hc.pvOk)
  have e : (drawn X).P = Try.prog := hP
  rw [e] at this
  exact this
/-- A law over bytes: each input goes one of the ways walked. -/
theorem dlawP {X : Cx} (hP : X.P = Try.prog) (hX : ∀ (pv : Int → Int → Int) (w : World) (E : Env), E.fi = FI pv → E.fb = FB → XOk X w E) {fuel L : Nat}
    (h : ∀ (pv : Int → Int → Int) (p : Option Addr) (len cap : Nat), PvOk pv → ∃ kn : Kn, runFn (drawn X) kn fuel L [.cv (.one (.opq 0))] = .ok (.cv (.one (.bool (.lit true)))) ∧ kn.ok (envD pv p len cap)) (v : Value) (w : World) (hv : BytesOk w w.heap.size v) : Calls Try.prog L #[v] w (Gives (.bool true) w) := by
  obtain ⟨p, len, cap, pv, rfl, hc⟩ := hv.cut
  have hXD := drawn_ok hP (hX pv w (envD pv p len cap) rfl rfl) hv hc
  obtain ⟨kn, hr, hk⟩ := h pv p len cap hc.pvOk
  have := runFn_ok hk hXD (by show X.P.follows _ = true; rw [hP]; exact mixed) hr
  have e : (drawn X).P = Try.prog := hP
  rw [e] at this
  exact this
/-- The same, where what is returned is yet to be seen to be 'true'. -/
theorem dlawP' {X : Cx} (hP : X.P = Try.prog) (hX : ∀ (pv : Int → Int → Int) (w : World) (E : Env), E.fi = FI pv → E.fb = FB → XOk X w E) {fuel L : Nat}
    (h : ∀ (pv : Int → Int → Int) (p : Option Addr) (len cap : Nat), PvOk pv → ∃ (kn : Kn) (r : SVal), runFn (drawn X) kn fuel L [.cv (.one (.opq 0))] = .ok r ∧ kn.ok (envD pv p len cap) ∧ r.den (envD pv p len cap) Pl.no = .bool true) (v : Value) (w : World) (hv : BytesOk w w.heap.size v) : Calls Try.prog L #[v] w (Gives (.bool true) w) := by
  obtain ⟨p, len, cap, pv, rfl, hc⟩ := hv.cut
  have hXD := drawn_ok hP (hX pv w (envD pv p len cap) rfl rfl) hv hc
  obtain ⟨kn, r, hr, hk, ht⟩ := h pv p len cap hc.pvOk
  have := runFn_ok hk hXD (by show X.P.follows _ = true; rw [hP]; exact mixed) hr
  have e : (drawn X).P = Try.prog := hP
  rw [e, ht] at this
  exact this
end Go.Proofs.Ytjbpaejjpamcpaa
