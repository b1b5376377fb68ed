/- What the drawing of inputs gives: numbers in their ranges, out of whatever bytes; nothing that lay in memory ahead of the reader is turned. -/
import Derived.Test.YtjbpaejjpamcpaaBase
import Derived.Deep.QuietTactic
import Derived.BigQuiet
namespace Go.Proofs.Ytjbpaejjpamcpaa
set_option linter.unusedSimpArgs false
set_option linter.unusedVariables false
open Go.RowKit

/-- A slice of bytes that can be read in w, in a block below B. -/
def BytesOk (w : World) (B : Nat) (v : Value) : Prop := (∃ (a : Option Addr) (cap : Nat), v = .slice a 0 cap) ∨ ∃ b off len cap : Nat, ∃ f : Nat → Int, v = .slice (some ⟨b, off, none⟩) len cap ∧ len ≤ cap ∧ cap ≤ 9223372036854775807 ∧ (∀ i, 0 ≤ f i ∧ f i ≤ 255) ∧ (∀ i, i < len → b < B ∧ w.cell? ⟨b, off + i, none⟩ = some (.int .u8 (f i)))

theorem BytesOk.kept {w w' : World} {B B' : Nat} {v : Value} (h : BytesOk w B v) (hB : B ≤ B') (hw : ∀ k, k < B → w'.heap[k]? = w.heap[k]?) : BytesOk w' B' v := by
  rcases h with h | ⟨b, off, len, cap, f, h1, h2, h3, h4, h5⟩
  · exact Or.inl h
  · refine Or.inr ⟨b, off, len, cap, f, h1, h2, h3, h4, fun i hi => ?_⟩
    obtain ⟨a1, a2⟩ := h5 i hi
    exact ⟨by omega, by rw [World.cell?_of_block (w := w) (w' := w') (hw b a1)]; exact a2⟩

def mixV (len : Nat) (f : Nat → Int) (p : Int) : Int := f (p.toNat % len) * 131 + f ((p.toNat * 7 + 3) % len) * 1117 + p * 29 + p / len * 53
/-- What pick gives, reading len bytes at place p. -/
def pickV (len : Nat) (f : Nat → Int) (p n : Int) : Int :=
  if n < 1 then 0 else if len = 0 then 0 else if p < len then f p.toNat % n else (bits .xor .i64 (mixV len f p) (mixV len f p / 64)).tmod n
/-- A slice of bytes that can be read in w, in a block below B; pv: what pick gives of it. -/
def BytesV (pv : Int → Int → Int) (w : World) (B : Nat) (v : Value) : Prop := ((∃ (a : Option Addr) (cap : Nat), v = .slice a 0 cap) ∧ ∀ p n, pv p n = 0) ∨ ∃ b off len cap : Nat, ∃ f : Nat → Int, v = .slice (some ⟨b, off, none⟩) len cap ∧ len ≤ cap ∧ cap ≤ 9223372036854775807 ∧ (∀ i, 0 ≤ f i ∧ f i ≤ 255) ∧ (∀ i, i < len → b < B ∧ w.cell? ⟨b, off + i, none⟩ = some (.int .u8 (f i))) ∧ ∀ p n, pv p n = pickV len f p n
theorem BytesV.kept {pv : Int → Int → Int} {w w' : World} {B B' : Nat} {v : Value} (h : BytesV pv w B v) (hB : B ≤ B') (hw : ∀ k, k < B → w'.heap[k]? = w.heap[k]?) : BytesV pv w' B' v := by
  rcases h with h | ⟨b, off, len, cap, f, h1, h2, h3, h4, h5, h6⟩
  · exact Or.inl h
  · refine Or.inr ⟨b, off, len, cap, f, h1, h2, h3, h4, fun i hi => ?_, h6⟩
    obtain ⟨a1, a2⟩ := h5 i hi
    exact ⟨by omega, by rw [World.cell?_of_block (w := w) (w' := w') (hw b a1)]; exact a2⟩
/-- The slice that the reader bears (cut at 2000), and what pick gives of it. -/
theorem BytesOk.cut {w : World} {B : Nat} {v : Value} (h : BytesOk w B v) : ∃ (p : Option Addr) (len cap : Nat) (pv : Int → Int → Int), v = .slice p len cap ∧ BytesV pv w B (.slice p (min len 2000) cap) := by
  rcases h with ⟨a, cap, rfl⟩ | ⟨b, off, len, cap, f, rfl, h2, h3, h4, h5⟩
  · exact ⟨a, 0, cap, fun _ _ => 0, rfl, Or.inl ⟨⟨a, cap, by simp⟩, fun _ _ => rfl⟩⟩
  · exact ⟨_, len, cap, pickV (min len 2000) f, rfl, Or.inr ⟨b, off, min len 2000, cap, f, rfl, by omega, h3, h4, fun i hi => h5 i (by omega), fun _ _ => rfl⟩⟩

/-- A reader of the bytes v0 in block B, at place p. -/
structure Rd (pv : Int → Int → Int) (v0 : Value) (w : World) (B : Nat) (p : Int) : Prop where
  bytes : BytesV pv w B v0
  blk : w.heap[B]? = some (.cells #[v0, .int .i64 p] 108 (0, 0))
  first : w.cell? ⟨B, 0, none⟩ = some v0
  place : w.cell? ⟨B, 1, none⟩ = some (.int .i64 p)
  free : ∀ o, w.frozen? ⟨B, o, none⟩ = false
  lt : B < w.heap.size
  nonneg : 0 ≤ p

section
variable {pv : Int → Int → Int} {v0 : Value}
theorem Rd.mk' {w : World} {B : Nat} {p : Int} (hv : v0.oneCell' = true) (hb : BytesV pv w B v0) (h : w.heap[B]? = some (.cells #[v0, .int .i64 p] 108 (0, 0))) (hp : 0 ≤ p) : Rd pv v0 w B p :=
  ⟨hb, h, by simp [World.cell?, h], by simp [World.cell?, h], fun o => by simp [World.frozen?, h], (Array.getElem?_eq_some_iff.1 h).1, hp⟩
theorem Rd.kept {w w' : World} {B : Nat} {p : Int} (h : Rd pv v0 w B p) (hw : ∀ k, k < B + 1 → w'.heap[k]? = w.heap[k]?) (hz : w.heap.size ≤ w'.heap.size) : Rd pv v0 w' B p := by
  obtain ⟨h1, hb, h2, h3, h4, h5, h6⟩ := h
  have e : w'.heap[B]? = w.heap[B]? := hw B (by omega)
  exact ⟨h1.kept (Nat.le_refl _) (fun k hk => hw k (by omega)), by rw [e]; exact hb, by rw [World.cell?_of_block (w := w) (w' := w') e]; exact h2, by rw [World.cell?_of_block (w := w) (w' := w') e]; exact h3,
    fun o => by rw [World.frozen?_of_block (w := w) (w' := w') e]; exact h4 o, by omega, h6⟩
theorem Rd.below {w w' : World} {B : Nat} {p : Int} (h : Rd pv v0 w B p) (hb : Below w.heap.size w w') : Rd pv v0 w' B p :=
  h.kept (fun k hk => hb.block k (by have := h.lt; omega)) hb.size
theorem Rd.alloc {w : World} {B : Nat} {p : Int} (h : Rd pv v0 w B p) (o : Obj) : Rd pv v0 (w.alloc o) B p := h.below ((Below.refl _ _).alloc (Nat.le_refl _) _)
theorem Rd.drew {w : World} {B : Nat} {p : Int} (h : Rd pv v0 w B p) : Rd pv v0 w.drew B p := ⟨h.bytes, h.blk, h.first, h.place, h.free, h.lt, h.nonneg⟩
theorem Rd.setCell {w : World} {B : Nat} {p : Int} (h : Rd pv v0 w B p) {a : Addr} (ha : B < a.block) (u : Value) : Rd pv v0 (w.setCell a u) B p :=
  h.kept (fun k hk => Below.heap_setCell _ _ _ _ (by omega)) (by simp)

end
/-- Of what lay in w only block B may have turned. -/
structure Picked (B : Nat) (w w' : World) : Prop where
  os : w'.os = w.os
  tape : w'.tape = w.tape
  output : w'.output = w.output
  size : w.heap.size ≤ w'.heap.size
  block : ∀ k, k < w.heap.size → k ≠ B → w'.heap[k]? = w.heap[k]?

theorem Picked.refl (B : Nat) (w : World) : Picked B w w := ⟨rfl, rfl, rfl, Nat.le_refl _, fun _ _ _ => rfl⟩
theorem Picked.trans {B : Nat} {a b c : World} (h : Picked B a b) (k : Picked B b c) : Picked B a c :=
  ⟨k.os.trans h.os, k.tape.trans h.tape, k.output.trans h.output, Nat.le_trans h.size k.size, fun i hi hn => (k.block i (Nat.lt_of_lt_of_le hi h.size) hn).trans (h.block i hi hn)⟩
theorem Picked.drew {B : Nat} {a w : World} (h : Picked B a w) : Picked B a w.drew := ⟨h.os, h.tape, h.output, h.size, h.block⟩
theorem Picked.below {B : Nat} {a w w' : World} (h : Picked B a w) (k : Below w.heap.size w w') : Picked B a w' :=
  ⟨k.os.trans h.os, k.tape.trans h.tape, k.output.trans h.output, Nat.le_trans h.size k.size, fun i hi hn => (k.block i (Nat.lt_of_lt_of_le hi h.size)).trans (h.block i hi hn)⟩
theorem Picked.alloc {B : Nat} {a w : World} (h : Picked B a w) (o : Obj) : Picked B a (w.alloc o) := h.below ((Below.refl _ _).alloc (Nat.le_refl _) _)
theorem Picked.setCell {B : Nat} {a w : World} (h : Picked B a w) {p : Addr} (hp : a.heap.size ≤ p.block ∨ p.block = B) (u : Value) : Picked B a (w.setCell p u) :=
  ⟨h.os, h.tape, h.output, by have := h.size; simpa using this, fun k hk hn => (Below.heap_setCell _ _ _ _ (by rcases hp with hp | hp <;> omega)).trans (h.block k hk hn)⟩
theorem Picked.to_below {B n : Nat} {a w : World} (h : Picked B a w) (hn : n ≤ B) (hn' : n ≤ a.heap.size) : Below n a w :=
  ⟨h.os, h.tape, h.output, h.size, fun k hk => h.block k (by omega) (by omega)⟩
theorem Picked.cell {B : Nat} {w w' : World} (h : Picked B w w') : ∀ b o, b < w.heap.size → b ≠ B → w'.cell? ⟨b, o, none⟩ = w.cell? ⟨b, o, none⟩ :=
  fun b _ hb hn => World.cell?_of_block (w := w) (h.block b hb hn)
theorem Picked.frozen {B : Nat} {w w' : World} (h : Picked B w w') : ∀ b o, b < w.heap.size → b ≠ B → w'.frozen? ⟨b, o, none⟩ = w.frozen? ⟨b, o, none⟩ :=
  fun b _ hb hn => World.frozen?_of_block (w := w) (h.block b hb hn)

/-- What pick gives: a number from 0 to n-1 (0 where n is below 1); the reader has moved on by one. -/
def PickR (pv : Int → Int → Int) (v0 : Value) (n : Int) (B : Nat) (p : Int) (w : World) (e : Ending) (w' : World) : Prop := ∃ x : Int, e = .returned (.int .i64 x) ∧ 0 ≤ x ∧ (1 ≤ n → x < n) ∧ (n < 1 → x = 0) ∧ Picked B w w' ∧ Rd pv v0 w' B (p + 1) ∧ x = pv p n

section
variable {pv : Int → Int → Int} {v0 : Value}
theorem pick_w {w : World} {B : Nat} {p : Int} (h : Rd pv v0 w B p) : Picked B w (w.setCell ⟨B, 1, none⟩ (.int .i64 (p + 1))) ∧ Rd pv v0 (w.setCell ⟨B, 1, none⟩ (.int .i64 (p + 1))) B (p + 1) := by
  obtain ⟨h1, hb, h2, h3, h4, h5, h6⟩ := h
  refine ⟨(Picked.refl B w).setCell (p := ⟨B, 1, none⟩) (Or.inr rfl) _, ⟨h1.kept (Nat.le_refl _) (fun k hk => Below.heap_setCell _ _ _ _ (by show k ≠ B; omega)), ?_, ?_, ?_, ?_, by simpa using h5, by omega⟩⟩
  · have hlt := (Array.getElem?_eq_some_iff.1 hb)
    show (w.heap.modify B _)[B]? = _
    rw [Array.getElem?_eq_getElem (by rw [Array.size_modify]; exact hlt.1), Array.getElem_modify_self, hlt.2]
    rfl
  · rw [World.cell?_setCell_other _ _ _ _ (by simp)]; exact h2
  · exact World.cell?_setCell_same _ _ _ h3
  · intro o; rw [World.frozen?_setCell]; exact h4 o
theorem Picked.drewN {B : Nat} {a w : World} (h : Picked B a w) (n : Nat) : Picked B a (w.drewN n) := ⟨h.os, h.tape, h.output, h.size, h.block⟩
theorem Rd.drewN {w : World} {B : Nat} {p : Int} (h : Rd pv v0 w B p) (n : Nat) : Rd pv v0 (w.drewN n) B p := ⟨h.bytes, h.blk, h.first, h.place, h.free, h.lt, h.nonneg⟩
theorem xor_nn (x y : Int) (hx : 0 ≤ x) (hy : 0 ≤ y) (hx' : x < 9223372036854775808) (hy' : y < 9223372036854775808) : 0 ≤ bits .xor .i64 x y := by
  obtain ⟨a, rfl⟩ := Int.eq_ofNat_of_zero_le hx
  obtain ⟨b, rfl⟩ := Int.eq_ofNat_of_zero_le hy
  have h1 : (BitVec.ofInt 64 (a : Int)).toNat = a := by
    rw [BitVec.ofInt_natCast, BitVec.toNat_ofNat]; exact Nat.mod_eq_of_lt (by omega)
  have h2 : (BitVec.ofInt 64 (b : Int)).toNat = b := by
    rw [BitVec.ofInt_natCast, BitVec.toNat_ofNat]; exact Nat.mod_eq_of_lt (by omega)
  have h3 : a ^^^ b < 2 ^ 63 := Nat.xor_lt_two_pow (by omega) (by omega)
  show 0 ≤ IntKind.i64.wrap ((BitVec.ofInt 64 (a : Int) ^^^ BitVec.ofInt 64 (b : Int)).toNat : Int)
  rw [BitVec.toNat_xor, h1, h2]
  simp [IntKind.wrap, IntKind.bits, IntKind.signed]
  omega

theorem pick_any (n : Int) (B : Nat) (p : Int) (w : World) (hr : Rd pv v0 w B p) (hp : p ≤ 1000000000) :
    Calls Try.prog 73 #[.pointer (some ⟨B, 0, none⟩), .int .i64 n] w (PickR pv v0 n B p w) := by
  have HW := Lib.hid (pick_w hr)
  have HR := Lib.hid hr
  obtain ⟨hv, hblk, h1, h3, h4, h5, h6⟩ := hr
  clear hblk
  have h40 := h4 0
  have h41 := h4 1
  by_cases hn : n < 1
  · have hpv : (0 : Int) = pv p n := by
      rcases hv with ⟨-, h⟩ | ⟨b, off, len, cap, f, -, -, -, -, -, h⟩
      · rw [h]
      · rw [h]; unfold pickV; rw [if_pos hn]
    have HV := Lib.hid hpv; clear hpv hv
    go_enter Try.func73, Try.ntmps73
    go_wp2
    go_returns
    exact ⟨0, rfl, by omega, by omega, by omega, HW.out.1, HW.out.2, HV.out⟩
  · rcases hv with ⟨⟨a0, c0, rfl⟩, hpv⟩ | ⟨b, off, len, cap, f, rfl, hlc, hcm, hf, hcell, hpv⟩
    · have HV := Lib.hid (hpv p n); clear hpv
      go_enter Try.func73, Try.ntmps73
      go_wp2
      go_returns
      exact ⟨0, rfl, by omega, by omega, by omega, HW.out.1, HW.out.2, HV.out.symm⟩
    · have HV := Lib.hid (hpv p n); clear hpv
      by_cases hl : len = 0
      · subst hl
        go_enter Try.func73, Try.ntmps73
        go_wp2
        go_returns
        exact ⟨0, rfl, by omega, by omega, by omega, HW.out.1, HW.out.2, by rw [HV.out]; unfold pickV; rw [if_neg (by omega), if_pos rfl]⟩
      · have hl' : 0 < len := by omega
        obtain ⟨k, rfl⟩ := Int.eq_ofNat_of_zero_le h6
        by_cases hk : k < len
        · obtain ⟨hb, hc⟩ := hcell k hk
          obtain ⟨f0, f1⟩ := hf k
          have hne : ¬ b = B := by omega
          obtain ⟨x, hx⟩ : ∃ x, f k = x := ⟨_, rfl⟩
          rw [hx] at hc f0 f1
          have HX := Lib.hid hx; clear hx
          have HF := Lib.hid hf
          clear hcell hf h4
          have r0 : 0 ≤ x % n := Int.emod_nonneg _ (by omega)
          have r1 : x % n < n := Int.emod_lt_of_pos _ (by omega)
          go_enter Try.func73, Try.ntmps73
          go_wp2
          go_returns
          exact ⟨x % n, rfl, r0, fun _ => r1, by omega, HW.out.1, HW.out.2, by rw [HV.out]; unfold pickV; rw [if_neg (by omega), if_neg hl, if_pos (by omega), Int.toNat_natCast, HX.out]⟩
        · have hm1 : k % len < len := Nat.mod_lt _ hl'
          have hm2 : (k * 7 + 3) % len < len := Nat.mod_lt _ hl'
          obtain ⟨hb, hc1⟩ := hcell _ hm1
          obtain ⟨_, hc2⟩ := hcell _ hm2
          obtain ⟨f0, f1⟩ := hf (k % len)
          obtain ⟨g0, g1⟩ := hf ((k * 7 + 3) % len)
          have hne : ¬ b = B := by omega
          obtain ⟨x, hx⟩ : ∃ x, f (k % len) = x := ⟨_, rfl⟩
          obtain ⟨y, hy⟩ : ∃ y, f ((k * 7 + 3) % len) = y := ⟨_, rfl⟩
          rw [hx] at hc1 f0 f1
          rw [hy] at hc2 g0 g1
          have HM : Hid (mixV len f k = x * 131 + y * 1117 + k * 29 + k / len * 53) := Lib.hid (by unfold mixV; rw [Int.toNat_natCast, hx, hy])
          clear hx hy
          clear hcell hf h4
          have q0 : 0 ≤ (k : Int) / len := Int.ediv_nonneg (by omega) (by omega)
          have q1 : (k : Int) / len ≤ k := Int.ediv_le_self _ (by omega)
          have m1 : ((k : Int) % len) < len := Int.emod_lt_of_pos _ (by omega)
          have m2 : (((k : Int) * 7 + 3) % len) < len := Int.emod_lt_of_pos _ (by omega)
          have m3 : 0 ≤ ((k : Int) % len) := Int.emod_nonneg _ (by omega)
          have m4 : 0 ≤ (((k : Int) * 7 + 3) % len) := Int.emod_nonneg _ (by omega)
          go_enter Try.func73, Try.ntmps73
          go_wp2
          go_quiet (fail)
          go_wp2
          go_returns
          have hx := xor_nn (x * 131 + y * 1117 + k * 29 + k / len * 53) ((x * 131 + y * 1117 + k * 29 + k / len * 53) / 64) (by omega) (by omega) (by omega) (by omega)
          exact ⟨_, rfl, Int.tmod_nonneg _ hx, fun _ => Int.tmod_lt_of_pos _ (by omega), by omega, HW.out.1.drewN _, HW.out.2.drewN _, by rw [HV.out]; unfold pickV; rw [if_neg (by omega), if_neg hl, if_neg (by omega), HM.out]⟩
end
/-- What opening gives: a reader in a block of its own, of at most 2000 bytes. -/
theorem l6Open_any (p : Option Addr) (len cap : Nat) (w : World) (hc : len ≤ cap ∨ len = 0) (hc2 : len = 0 ∨ cap ≤ 9223372036854775807) (hp : len = 0 ∨ ∃ b off, p = some ⟨b, off, none⟩) :
    Calls Try.prog 49 #[.slice p len cap] w fun e w' => ∃ B, e = .returned (.pointer (some ⟨B, 0, none⟩)) ∧ w.heap.size ≤ B ∧ Below w.heap.size w w' ∧ w'.heap[B]? = some (.cells #[.slice p (min len 2000) cap, .int .i64 0] 108 (0, 0)) := by
  by_cases hl : 2000 < len
  · have hm : min len 2000 = 2000 := by omega
    rw [hm]
    rcases hp with hp | ⟨b, off, rfl⟩
    · omega
    have hc' : len ≤ cap := by omega
    have hc2' : cap ≤ 9223372036854775807 := by omega
    clear hc hc2
    go_enter Try.func49, Try.ntmps49
    go_wp2
    go_returns
    exact ⟨w.heap.size, rfl, Nat.le_refl _, by go_grown, by show (w.heap.push _)[w.heap.size]? = _; simp⟩
  · have hm : min len 2000 = len := by omega
    rw [hm]
    go_enter Try.func49, Try.ntmps49
    go_wp2
    go_returns
    exact ⟨w.heap.size, rfl, Nat.le_refl _, by go_grown, by show (w.heap.push _)[w.heap.size]? = _; simp⟩

end Go.Proofs.Ytjbpaejjpamcpaa
