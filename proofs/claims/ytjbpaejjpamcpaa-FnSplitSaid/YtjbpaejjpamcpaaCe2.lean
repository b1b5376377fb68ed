/- Each operation of CellSplit and of its worker that makes, reads or writes memory: what it yields, what it lists. -/
import Derived.Test.YtjbpaejjpamcpaaMCw
import Derived.Test.YtjbpaejjpamcpaaCd0
import Derived.Conc.AppendWalk
import Derived.Laws.AppendOwn
import Derived.Conc.AppendEvents3
import Derived.Conc.LoneSelectN
import Derived.Laws.ByValue
import Derived.Conc.WgWords
namespace Go.Proofs.Ytjbpaejjpamcpaa.Sim
set_option linter.unusedSimpArgs false
set_option linter.unusedVariables false
open Go Go.Conc Go.RowKit
open Go.ConcR (wgBlock)

section
variable {a : Act} {o : Oper} {w : World}
theorem op_box27 {x : Operand} {x0 x1 x2 x3 : Int} (ho : o.op = .box 27 x) (hx : a.eval x = .agg #[.int .i64 x0, .int .i64 x1, .int .i64 x2, .int .i64 x3]) (w : World) :
    (execOp a.eval o).run Try.prog w = .ok (.value (.pointer (some ⟨w.heap.size, 0, none⟩))) (w.alloc (.cells #[.int .i64 x0, .int .i64 x1, .int .i64 x2, .int .i64 x3] 27)) ∧ (execOp a.eval o).events Try.prog w #[] = #[] := by
  unfold execOp
  simp only [ho, hx]
  exact ⟨by go_simp, by simp [go_sem]⟩
theorem op_box3 {x : Operand} {x0 : Int} (ho : o.op = .box 3 x) (hx : a.eval x = .int .i64 x0) (w : World) :
    (execOp a.eval o).run Try.prog w = .ok (.value (.pointer (some ⟨w.heap.size, 0, none⟩))) (w.alloc (.cells #[.int .i64 x0] 3)) ∧ (execOp a.eval o).events Try.prog w #[] = #[] := by
  unfold execOp
  simp only [ho, hx]
  exact ⟨by go_simp, by simp [go_sem]⟩
theorem cell_of {B off : Nat} {cs : Array Value} {t : TypeId} {v : Value} {w : World} (h : w.heap[B]? = some (.cells cs t)) (hv : cs[off]? = some v) : w.cell? ⟨B, off, none⟩ = some v := by simp [World.cell?, h, hv]
theorem op_load27 {x : Operand} {B off : Nat} {cs : Array Value} {t : TypeId} {x0 x1 x2 x3 : Int} (ho : o.op = .load 27 x) (hx : a.eval x = .pointer (some ⟨B, off, none⟩)) (h0 : cs[off]? = some (.int .i64 x0)) (h1 : cs[off + 1]? = some (.int .i64 x1)) (h2 : cs[off + 2]? = some (.int .i64 x2)) (h3 : cs[off + 3]? = some (.int .i64 x3))
    (w : World) (h : w.heap[B]? = some (.cells cs t)) :
    (execOp a.eval o).run Try.prog w = .ok (.value (.agg #[.int .i64 x0, .int .i64 x1, .int .i64 x2, .int .i64 x3])) w ∧ ∀ e ∈ (execOp a.eval o).events Try.prog w #[], ∃ ad, e.loc = .cell ad ∧ ad.block = B ∧ e.write = false := by
  have c0 := cell_of h h0
  have c1 := cell_of h h1
  have c2 := cell_of h h2
  have c3 := cell_of h h3
  unfold execOp
  simp only [ho, hx]
  refine ⟨by go_simp, fun e he => ?_⟩
  simp [go_sem, *] at he
  rcases he with rfl | rfl | rfl | rfl <;> exact ⟨_, rfl, rfl, rfl⟩
theorem op_load1 {x : Operand} {t : TypeId} (ht : t = 3 ∨ t = 52) {B off : Nat} {cs : Array Value} {t' : TypeId} {v : Value} (ho : o.op = .load t x) (hx : a.eval x = .pointer (some ⟨B, off, none⟩)) (h0 : cs[off]? = some v)
    (w : World) (h : w.heap[B]? = some (.cells cs t')) :
    (execOp a.eval o).run Try.prog w = .ok (.value v) w ∧ ∀ e ∈ (execOp a.eval o).events Try.prog w #[], ∃ ad, e.loc = .cell ad ∧ ad.block = B ∧ e.write = false := by
  have c0 := cell_of h h0
  unfold execOp
  simp only [ho, hx]
  rcases ht with rfl | rfl
  · refine ⟨by go_simp, fun e he => ?_⟩
    simp [go_sem, *] at he
    subst he; exact ⟨_, rfl, rfl, rfl⟩
  · refine ⟨by go_simp, fun e he => ?_⟩
    simp [go_sem, *] at he
    subst he; exact ⟨_, rfl, rfl, rfl⟩
theorem op_build0 (ho : o.op = .buildSlice 24 0 #[]) (w : World) : (execOp a.eval o).run Try.prog w = .ok (.value (.slice (some ⟨w.heap.size, 0, none⟩) 0 0)) (w.alloc (.cells #[] 3)) ∧ (execOp a.eval o).events Try.prog w #[] = #[] := by
  unfold execOp
  simp only [ho]
  exact ⟨by go_simp, by simp [go_sem]⟩
theorem op_alloc27 (ho : o.op = .alloc 27) (w : World) :
    (execOp a.eval o).run Try.prog w = .ok (.value (.pointer (some ⟨w.heap.size, 0, none⟩))) (w.alloc (.cells #[.int .i64 0, .int .i64 0, .int .i64 0, .int .i64 0] 27)) ∧ (execOp a.eval o).events Try.prog w #[] = #[] := by
  unfold execOp
  simp only [ho]
  exact ⟨by go_simp, by simp [go_sem]⟩
theorem op_alloc51 (ho : o.op = .alloc 51) (w : World) :
    (execOp a.eval o).run Try.prog w = .ok (.value (.pointer (some ⟨w.heap.size, 0, none⟩))) (w.alloc (wgBlock 51 0 0)) ∧ (execOp a.eval o).events Try.prog w #[] = #[] := by
  unfold execOp
  simp only [ho]
  exact ⟨by go_simp; rfl, by simp [go_sem]⟩
theorem op_alloc52 (ho : o.op = .alloc 52) (w : World) :
    (execOp a.eval o).run Try.prog w = .ok (.value (.pointer (some ⟨w.heap.size, 0, none⟩))) (w.alloc (.cells #[.chan none] 52)) ∧ (execOp a.eval o).events Try.prog w #[] = #[] := by
  unfold execOp
  simp only [ho]
  exact ⟨by go_simp, by simp [go_sem]⟩
theorem inf {t : TypeId} {z : Value} {n b : Nat} (h : (Try.prog.info? t).map (fun i => (i.zero, i.size, i.bytes)) = some (some z, n, b)) : ∃ i, Try.prog.info? t = some i ∧ i.zero = some z ∧ i.size = n ∧ i.bytes = b := by
  cases e : Try.prog.info? t with
  | none => rw [e] at h; cases h
  | some i => rw [e] at h; simp only [Option.map_some, Option.some.injEq, Prod.mk.injEq] at h; exact ⟨i, rfl, h.1, h.2.1, h.2.2⟩
theorem inf3 : ∃ i, Try.prog.info? 3 = some i ∧ i.zero = some (.int .i64 0) ∧ i.size = 1 ∧ i.bytes = 8 := inf (by kernel_rfl)
theorem inf52 : ∃ i, Try.prog.info? 52 = some i ∧ i.zero = some (.chan none) ∧ i.size = 1 ∧ i.bytes = 8 := inf (by kernel_rfl)
theorem op_mkchan {k : Operand} (ho : o.op = .makeChan 52 k) (hk : a.eval k = .int .i64 1) (w : World) :
    (execOp a.eval o).run Try.prog w = .ok (.value (.chan (some w.heap.size))) (w.alloc (.chan 1 #[] false 0 0 false)) ∧ (execOp a.eval o).events Try.prog w #[] = #[] := by
  obtain ⟨i, hi, hz, hs, hb⟩ := inf3
  unfold execOp
  simp only [ho, hk]
  have h1 := run_makeChan (P := Try.prog) (w := w) Try.underlying52 hi .i64 1 (by decide) (by rw [hb]; decide)
  have h2 := events_makeChan (P := Try.prog) (w := w) Try.underlying52 hi .i64 1 (by decide) (by rw [hb]; decide) #[]
  simp only [show ((1 : Nat) : Int) = 1 from rfl] at h1 h2
  exact ⟨by go_simp, by simp [go_sem, h1, h2]⟩
theorem op_make41 {x y : Operand} (ho : o.op = .makeSlice 41 x y) (hx : a.eval x = .int .i64 4) (hy : a.eval y = .int .i64 4) (w : World) :
    (execOp a.eval o).run Try.prog w = .ok (.value (.slice (some ⟨w.heap.size, 0, none⟩) 4 4)) (w.alloc (.cells #[.chan none, .chan none, .chan none, .chan none] 52)) ∧ (execOp a.eval o).events Try.prog w #[] = #[] := by
  obtain ⟨i, hi, hz, hs, hb⟩ := inf52
  have h1 := run_make (P := Try.prog) w 41 52 i _ Try.underlying41 hi hz .i64 .i64 4 4 (by decide) (by decide) (by rw [hb]; decide) (by decide)
  have h2 := Go.Conc.events_make (P := Try.prog) w 41 52 i _ Try.underlying41 hi hz .i64 .i64 4 4 (by decide) (by decide) (by rw [hb]; decide) (by decide) (by rw [hb]; decide) #[]
  rw [hs] at h1
  have e : madeCells (Value.chan none).cells ((4 : Int).toNat * 1) = #[.chan none, .chan none, .chan none, .chan none] := by kernel_rfl
  rw [e] at h1
  unfold execOp
  simp only [ho, hx, hy]
  exact ⟨by go_simp, by simp [go_sem, h1, h2]⟩
theorem op_make24 {x y : Operand} (ho : o.op = .makeSlice 24 x y) (hx : a.eval x = .int .i64 0) (hy : a.eval y = .int .i64 4) (w : World) :
    (execOp a.eval o).run Try.prog w = .ok (.value (.slice (some ⟨w.heap.size, 0, none⟩) 0 4)) (w.alloc (.cells #[.int .i64 0, .int .i64 0, .int .i64 0, .int .i64 0] 3)) ∧ (execOp a.eval o).events Try.prog w #[] = #[] := by
  obtain ⟨i, hi, hz, hs, hb⟩ := inf3
  have h1 := run_make (P := Try.prog) w 24 3 i _ Try.underlying24 hi hz .i64 .i64 0 4 (by decide) (by decide) (by rw [hb]; decide) (by decide)
  have h2 := Go.Conc.events_make (P := Try.prog) w 24 3 i _ Try.underlying24 hi hz .i64 .i64 0 4 (by decide) (by decide) (by rw [hb]; decide) (by decide) (by rw [hb]; decide) #[]
  rw [hs] at h1
  have e : madeCells (Value.int .i64 0).cells ((4 : Int).toNat * 1) = #[.int .i64 0, .int .i64 0, .int .i64 0, .int .i64 0] := by kernel_rfl
  rw [e] at h1
  unfold execOp
  simp only [ho, hx, hy]
  exact ⟨by go_simp, by simp [go_sem, h1, h2]⟩
theorem op_build1 {x : Operand} {v : Int} (ho : o.op = .buildSlice 24 1 #[(0, x)]) (hx : a.eval x = .int .i64 v) (w : World) :
    (execOp a.eval o).run Try.prog w = .ok (.value (.slice (some ⟨w.heap.size, 0, none⟩) 1 1)) (w.alloc (.cells #[.int .i64 v] 3)) ∧ (execOp a.eval o).events Try.prog w #[] = #[] := by
  unfold execOp
  simp only [ho, List.map_toArray, List.map_cons, List.map_nil, hx]
  refine ⟨by go_simp, by simp [go_sem]⟩
/-- The cells of a block of one's own are laid anew. -/
theorem setTo_cells {B off : Nat} {cs : Array Value} {t : TypeId} {v : Value} (h : w.heap[B]? = some (.cells cs t)) : SetTo w (w.setCell ⟨B, off, none⟩ v) B (.cells (cs.setIfInBounds off v) t) := by
  have hA := Go.Conc.aside_setCell w ⟨B, off, none⟩ v
  refine ⟨hA.tape, hA.os, hA.output, hA.size, ?_, fun j hj => hA.block j hj⟩
  rw [setCell_eq_setRow w B off cs t (0, 0) _ h, setRow_heap w B _ _ t _ h]
theorem SetTo.trans {w w₁ w₂ : World} {B : Nat} {o o' : Obj} (h : SetTo w w₁ B o) (k : SetTo w₁ w₂ B o') : SetTo w w₂ B o' :=
  ⟨k.tape.trans h.tape, k.os.trans h.os, k.output.trans h.output, k.size.trans h.size, k.at_, fun j hj => (k.other j hj).trans (h.other j hj)⟩
theorem frozen_of {B off : Nat} {cs : Array Value} {t : TypeId} {w : World} (h : w.heap[B]? = some (.cells cs t)) : w.frozen? ⟨B, off, none⟩ = false := by simp [World.frozen?, h]
theorem op_store52 {x y : Operand} {B off : Nat} {cs : Array Value} {t : TypeId} {v : Option Nat} (ho : o.op = .store 52 x y) (hx : a.eval x = .pointer (some ⟨B, off, none⟩)) (hy : a.eval y = .chan v) (hoff : off < cs.size) (w : World) (h : w.heap[B]? = some (.cells cs t)) :
    ∃ w', (execOp a.eval o).run Try.prog w = .ok .skip w' ∧ SetTo w w' B (.cells (cs.setIfInBounds off (.chan v)) t) ∧ ∀ e ∈ (execOp a.eval o).events Try.prog w #[], ∃ ad, e.loc = .cell ad ∧ ad.block = B := by
  have c0 := cell_of h (Array.getElem?_eq_getElem hoff)
  have f0 := frozen_of (off := off) h
  unfold execOp
  simp only [ho, hx, hy]
  refine ⟨w.setCell ⟨B, off, none⟩ (.chan v), by go_simp, setTo_cells h, fun e he => ?_⟩
  simp [go_sem, storedEv, *] at he
  subst he; exact ⟨_, rfl, rfl⟩
theorem op_store27 {x y : Operand} {B : Nat} {c0 c1 c2 c3 : Value} {x0 x1 x2 x3 : Int} {t : TypeId} (ho : o.op = .store 27 x y) (hx : a.eval x = .pointer (some ⟨B, 0, none⟩)) (hy : a.eval y = .agg #[.int .i64 x0, .int .i64 x1, .int .i64 x2, .int .i64 x3])
    (w : World) (h : w.heap[B]? = some (.cells #[c0, c1, c2, c3] t)) :
    ∃ w', (execOp a.eval o).run Try.prog w = .ok .skip w' ∧ SetTo w w' B (.cells #[.int .i64 x0, .int .i64 x1, .int .i64 x2, .int .i64 x3] t) ∧ ∀ e ∈ (execOp a.eval o).events Try.prog w #[], ∃ ad, e.loc = .cell ad ∧ ad.block = B := by
  have s0 := setTo_cells (off := 0) (v := .int .i64 x0) h
  have s1 := setTo_cells (off := 1) (v := .int .i64 x1) s0.at_
  have s2 := setTo_cells (off := 2) (v := .int .i64 x2) s1.at_
  have s3 := setTo_cells (off := 3) (v := .int .i64 x3) s2.at_
  have a0 := cell_of (off := 0) (v := c0) h rfl
  have f0 := frozen_of (off := 0) h
  have a1 := cell_of (off := 1) (v := c1) s0.at_ rfl
  have f1 := frozen_of (off := 1) s0.at_
  have a2 := cell_of (off := 2) (v := c2) s1.at_ rfl
  have f2 := frozen_of (off := 2) s1.at_
  have a3 := cell_of (off := 3) (v := c3) s2.at_ rfl
  have f3 := frozen_of (off := 3) s2.at_
  have hs : SetTo w _ B _ := ((s0.trans s1).trans s2).trans s3
  unfold execOp
  simp only [ho, hx, hy]
  refine ⟨_, by go_simp, hs, fun e he => ?_⟩
  simp [go_sem, storedEv, *] at he
  rcases he with rfl | rfl | rfl | rfl <;> exact ⟨_, rfl, rfl⟩
theorem op_iaddr {t : TypeId} {n : Nat} (ht : (t = 38 ∧ n = 4) ∨ (t = 41 ∧ n = 1)) {x y : Operand} {B l c j : Nat} (ho : o.op = .indexAddr t x y) (hx : a.eval x = .slice (some ⟨B, 0, none⟩) l c) (hy : a.eval y = .int .i64 (j : Int)) (hj : j < l) (w : World) :
    (execOp a.eval o).run Try.prog w = .ok (.value (.pointer (some ⟨B, j * n, none⟩))) w ∧ (execOp a.eval o).events Try.prog w #[] = #[] := by
  have h0 : (0 : Int) ≤ (j : Int) := by omega
  have h1 : (j : Int) < (l : Int) := by omega
  unfold execOp
  simp only [ho, hx, hy]
  rcases ht with ⟨rfl, rfl⟩ | ⟨rfl, rfl⟩
  · refine ⟨by go_simp, ?_⟩
    simp [go_sem, *]
  · refine ⟨by go_simp, ?_⟩
    simp [go_sem, *]
theorem op_append {x y : Operand} {B B' n : Nat} {cs : Array Value} {v : Int} (hn : n < 4) (hs : cs.size = 4) (ho : o.op = .call { callee := .builtin .append, args := #[x, y], argTypes := #[24, 24] }) (hty : o.type = 24)
    (hx : a.eval x = .slice (some ⟨B, 0, none⟩) n 4) (hy : a.eval y = .slice (some ⟨B', 0, none⟩) 1 1) (w : World) (h : w.heap[B]? = some (.cells cs 3)) (h' : w.heap[B']? = some (.cells #[.int .i64 v] 3)) :
    ∃ w', (execOp a.eval o).run Try.prog w = .ok (.value (.slice (some ⟨B, 0, none⟩) (n + 1) 4)) w' ∧ SetTo w w' B (.cells (cs.setIfInBounds n (.int .i64 v)) 3) ∧
      ∀ e ∈ (execOp a.eval o).events Try.prog w #[], (∃ ad, e.loc = .cell ad ∧ (ad.block = B ∨ ad.block = B')) ∨ e.loc = .mark .noRoom := by
  obtain ⟨i, hi, hz, hsz, hb⟩ := inf3
  have hnews : ∀ j u, ([Value.int .i64 v] : List Value)[j]? = some u → w.cell? ((⟨B', 0, none⟩ : Addr).add j) = some u := fun j u hj => by
    match j, hj with
    | 0, hj => simp at hj; subst hj; exact cell_of (off := 0) h' rfl
    | j + 1, hj => simp at hj
  have hone : ∀ u ∈ ([Value.int .i64 v] : List Value), u.oneCell' = true := fun u hu => by simp at hu; subst hu; rfl
  have hrun := run_append_room (P := Try.prog) w 24 24 3 i Try.underlying24 hi B n 4 cs h ⟨B', 0, none⟩ 1 1 [.int .i64 v] (by rw [hsz]; rfl) hnews hone (by omega) (by rw [hsz, hs]; simp; omega)
  rw [hsz] at hrun
  have hset : (cs.toList.take (n * 1) ++ [Value.int .i64 v] ++ cs.toList.drop (n * 1 + [Value.int .i64 v].length)).toArray = cs.setIfInBounds n (.int .i64 v) := by
    have hlen : cs.toList.length = 4 := by simpa using hs
    apply Array.ext'
    simp only [Array.toList_setIfInBounds, Nat.mul_one, List.length_cons, List.length_nil, Nat.zero_add, List.append_assoc, List.cons_append, List.nil_append]
    rw [List.set_eq_take_append_cons_drop, if_pos (by omega)]
  rw [hset] at hrun
  have hlt : B < w.heap.size := (Array.getElem?_eq_some_iff.1 h).1
  refine ⟨w.setRow B (cs.setIfInBounds n (.int .i64 v)), ?_, ⟨rfl, rfl, rfl, by simp [World.setRow], setRow_heap w B _ _ 3 _ h, fun j hj => by simp [World.setRow, Array.getElem?_modify, Ne.symm hj]⟩, fun e he => ?_⟩
  · unfold execOp
    simp only [ho, resolve, invoke, builtin, Sem.run_bind, Sem.run_pure, Result.andThen_ok, List.map_toArray, List.map_cons, List.map_nil, hx, hy, hty]
    rw [hrun]; rfl
  · rw [Go.Conc.events_append_op (P := Try.prog) x y 24 ho hx hy, hty] at he
    have hlen4 : (cs.toList.take (n * 1)).length = n * 1 := by
      have hlen : cs.toList.length = 4 := by simpa using hs
      simp; omega
    rcases events_append_where (P := Try.prog) w 0 24 24 3 i _ 1 8 Try.underlying24 hi hz hsz hb (.slice (some ⟨B, 0, none⟩) n 4) n (cs.toList.take (n * 1)) ⟨hlen4, .inr ⟨B, 4, cs, rfl, Nat.zero_le _, h, by omega, by decide, by rw [hs], rfl⟩⟩
      ⟨B', 0, none⟩ 1 1 [.int .i64 v] rfl hnews hone (by simp [maxLen]; omega) (by omega) e he with ⟨ad, e1, h2 | h2⟩ | ⟨m, rfl, hm⟩
    · exact .inl ⟨ad, e1, .inr h2.2⟩
    · simp [Value.ownBlock] at h2; exact .inl ⟨ad, e1, .inl h2⟩
    · exact .inr (by rw [show m = .noRoom from hm])
end
end Go.Proofs.Ytjbpaejjpamcpaa.Sim
