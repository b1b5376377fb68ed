import Derived.Test.YtjbpaejjpamcpaaMCf
import Derived.Test.YtjbpaejjpamcpaaMCk
import Derived.Test.YtjbpaejjpamcpaaMCd
/- CellSplit: one round of the loop that starts the workers. -/
set_option linter.unusedSectionVars false
namespace Go.Proofs.Ytjbpaejjpamcpaa.Sim
set_option linter.unusedSimpArgs false
set_option linter.unusedVariables false
open Go Go.Conc Go.RowKit Go.Conc.Lib Go.ConcN.Gen Go.ConcR.Gen
open Go.ConcN (WgLive)

noncomputable def c6 : Code := c2 c5
noncomputable def lp7 : Code := c1 (c1 (c2 (c1 c6)))
/-- The starting loop's frame. -/
noncomputable def at7 (a b c d m : Int) (Bb Bm Q An qc Wg : Nat) (i : Int) (s10 s11 s12 s30 s31 s32 s33 s34 s35 s36 s37 s38 s39 s40 s41 s42 : Value) (kk : List Item) : Frame := (base 7).at ⟨#[bx a b c d, .int .i64 m, .pointer (some ⟨Bb, 0, none⟩), .pointer (some ⟨Bm, 0, none⟩), .slice none 0 0, .bool false, .slice (some ⟨Q, 0, none⟩) 4 qc, .bool true, .slice (some ⟨An, 0, none⟩) 4 4, .pointer (some ⟨Wg, 0, none⟩), s10, s11, s12, undef, undef, undef, .tuple #[.slice (some ⟨Q, 0, none⟩) 4 qc, .bool true], bx a b c d, .tuple #[.slice (some ⟨Q, 0, none⟩) 4 qc, .bool true], .slice (some ⟨Q, 0, none⟩) 4 qc, .bool true, .bool true, .bool false, undef, .slice (some ⟨Q, 0, none⟩) 4 qc, .int .i64 4, .slice (some ⟨An, 0, none⟩) 4 4, .slice (some ⟨Q, 0, none⟩) 4 qc, .int .i64 4, .int .i64 i, s30, s31, s32, s33, s34, s35, s36, s37, s38, s39, s40, s41, s42, undef, undef, undef, undef, undef, undef, undef, undef, undef, undef, undef, undef, undef, undef, undef, undef], []⟩ kk
section
variable {Stop : (Nat → Prop) → Goroutine → World → Prop} {E : Nat → Prop} {w : World} {L : List (Nat × Obj)} {cs : List Frame} {a b c d m : Int} {Bb Bm Q An qc Wg j k : Nat} {s10 s11 s12 s30 s31 s32 s33 s34 s35 s36 s37 s38 s39 s40 s41 s42 : Value} {kk : List Item} {x : Xs} {cq : Array Value} {val : Nat → Value} {S' : Xs → St}
set_option maxRecDepth 100000 in
set_option maxHeartbeats 8000000 in
theorem round7 (hz : ∀ k j, k < 4 → j < 4 → cq[k * 4 + j]? = some (.int .i64 (qv j a b c d k))) (hj : j < 4) (hval : val k = .int .i64 (qst a b c d m j))
    (hL : LpS L m Bm Q An Wg cq x E w) (hx : x.cbs.length = j)
    (hnext : ∀ x' E' w' s10 s11 s12 s30 s31 s32 s33 s34 s35 s36 s37 s38 s39 s40 s41 s42, LpS L m Bm Q An Wg cq x' E' w' → x'.cbs.length = j + 1 → MW Try.prog 51 Wg x' (S' x') E' (G (at7 a b c d m Bb Bm Q An qc Wg ((j + 1 : Nat) : Int) s10 s11 s12 s30 s31 s32 s33 s34 s35 s36 s37 s38 s39 s40 s41 s42 (.code lp7 :: .inLoop lp7 :: kk)) cs) w') :
    MW Try.prog 51 Wg x (MKd Try.prog 51 Wg val k x (fun x' => MW Try.prog 51 Wg x' (S' x'))) E (G (at7 a b c d m Bb Bm Q An qc Wg (j : Int) s10 s11 s12 s30 s31 s32 s33 s34 s35 s36 s37 s38 s39 s40 s41 s42 (.code lp7 :: .inLoop lp7 :: kk)) cs) w := by
  obtain ⟨⟨arr, hH, hsz, harr⟩, hnd, hown, hzlt, hzm⟩ := hL
  have hI := stabX (ty := 51) (Wg := Wg) hzlt hown
  have q0 := hz j 0 hj (by decide)
  have q1 := hz j 1 hj (by decide)
  have q2 := hz j 2 hj (by decide)
  have q3 := hz j 3 hj (by decide)
  generalize hLp : (lp7 : Code) = LP
  unfold at7
  rw [show (Item.code LP) = Item.code lp7 by rw [hLp]]
  simp only [lp7, c6, c5, c1, c2, body7, Try.f7, Option.getD_some]
  refine Way.ctl rfl (fun _ => stepG_seq) ?_
  refine Way.ctl rfl (fun _ => stepG_region) ?_
  simp only [List.size_toArray, List.length_cons, List.length_nil, Nat.reduceAdd, Nat.zero_add, List.range, List.range.loop]
  refine Way.op2 rfl rfl (by decide) (op_lss (n := 4) rfl rfl rfl) ?_
  walk_nrm
  refine Way.ctl rfl (fun _ => stepG_region_end) ?_
  refine Way.ctl rfl (fun _ => stepG_seq) ?_
  refine Way.ctl rfl (fun _ => stepG_cond (t := true) (by simp [Act.eval, hj])) ?_
  simp only [if_true, if_false, Bool.false_eq_true, ↓reduceIte]
  refine Way.ctl rfl (fun _ => stepG_skip) ?_
  refine Way.ctl rfl (fun _ => stepG_seq) ?_
  refine Way.ctl rfl (fun _ => stepG_block) ?_
  refine Way.ctl rfl (fun _ => stepG_seq) ?_
  refine Way.ctl rfl (fun _ => stepG_region) ?_
  simp only [List.size_toArray, List.length_cons, List.length_nil, Nat.reduceAdd, Nat.zero_add, List.range, List.range.loop]
  refine Way.op0 rfl rfl (by decide) (fun _ => by go_simp; rfl) (fun _ => by simp [go_sem]) ?_
  walk_nrm
  refine Way.op2 rfl rfl (by decide) (op_iaddr (.inl ⟨rfl, rfl⟩) rfl rfl rfl hj) ?_
  walk_nrm
  refine Way.load hH (.tail _ (.head _)) rfl rfl (by decide) (op_load27 rfl rfl q0 q1 q2 q3) ?_
  walk_nrm
  refine Way.alloc (f := fun B => .pointer (some ⟨B, 0, none⟩)) hI hH rfl rfl (by decide) (op_alloc27 rfl) (fun Bq E w hH hBq => ?_)
  walk_nrm
  refine Way.op0 rfl rfl (by decide) (fun _ => by go_simp; rfl) (fun _ => by simp [go_sem]) ?_
  walk_nrm
  refine Way.store hI hH rfl rfl (by decide) (op_store27 rfl rfl rfl) (fun w hH => ?_)
  walk_nrm
  refine Way.ctl rfl (fun _ => stepG_region_end) ?_
  refine Way.ctl rfl (fun _ => stepG_seq) ?_
  refine Way.ctl rfl (fun _ => stepG_region) ?_
  simp only [List.size_toArray, List.length_cons, List.length_nil, Nat.reduceAdd, Nat.zero_add, List.range, List.range.loop]
  refine Way.alloc (f := fun B => .chan (some B)) hI hH rfl rfl (by decide) (op_mkchan rfl rfl) (fun ch E w hH hch => ?_)
  walk_nrm
  have hH0 := hH
  refine Way.alloc (f := fun B => .pointer (some ⟨B, 0, none⟩)) hI hH rfl rfl (by decide) (op_alloc52 rfl) (fun Ba E w hH hBa => ?_)
  walk_nrm
  have hlt : ch < Ba := Nat.lt_of_lt_of_le (hH0.lt (.head _)) hBa
  refine Way.store hI hH rfl rfl (by decide) (op_store52 rfl rfl rfl (by decide)) (fun w hH => ?_)
  walk_nrm
  simp only [List.setIfInBounds_toArray, List.set_cons_zero] at hH
  refine Way.ctl rfl (fun _ => stepG_region_end) ?_
  refine Way.ctl rfl (fun _ => stepG_seq) ?_
  refine Way.ctl rfl (fun _ => stepG_region) ?_
  simp only [List.size_toArray, List.length_cons, List.length_nil, Nat.reduceAdd, Nat.zero_add, List.range, List.range.loop]
  refine Way.op0 rfl rfl (by decide) (fun _ => by go_simp; rfl) (fun _ => by simp [go_sem]) ?_
  walk_nrm
  refine Way.op0 rfl rfl (by decide) (fun _ => by go_simp; rfl) (fun _ => by simp [go_sem]) ?_
  walk_nrm
  refine Way.load hH (.head _) rfl rfl (by decide) (op_load1 (.inr rfl) rfl rfl rfl) ?_
  walk_nrm
  refine Way.op2 rfl rfl (by decide) (op_iaddr (.inr ⟨rfl, rfl⟩) rfl rfl rfl hj) ?_
  walk_nrm
  replace hH := hH.perm (List.perm_middle (l₁ := [_, _, _]))
  refine Way.store hI hH rfl rfl (by decide) (op_store52 rfl rfl rfl (by omega)) (fun w hH => ?_)
  walk_nrm
  refine Way.ctl rfl (fun _ => stepG_region_end) ?_
  refine Way.ctl rfl (fun _ => stepG_seq) ?_
  refine Way.ctl rfl (fun _ => stepG_region) ?_
  simp only [List.size_toArray, List.length_cons, List.length_nil, Nat.reduceAdd, Nat.zero_add, List.range, List.range.loop]
  refine Way.enter rfl rfl (by decide) rfl wgLib.f_add (nm_add lnk) rfl ?_
  walk_nrmf addFn
  refine Way.rely fun w hr hi => ?_
  replace hH := hH.moved hr
  refine mw_goes 12 (addPosS wgLib (F := fun w => Has Try.prog.globals.size (FxW Wg x) _ w _) (hH.fx Wg (.inl rfl)) (fun _ _ hr h => h.moved hr) (fun w hH hl => ?_) w ⟨hH, hi.1⟩)
  clear hr hi
  walk_nrm
  refine Way.ctl rfl (fun _ => stepG_region_end) ?_
  refine Way.ctl rfl (fun _ => stepG_region) ?_
  simp only [List.size_toArray, List.length_cons, List.length_nil, Nat.reduceAdd, Nat.zero_add, List.range, List.range.loop]
  refine Way.op0 rfl rfl (by decide) (fun _ => by go_simp; rfl) (fun _ => by simp [go_sem]) ?_
  walk_nrm
  refine Way.stop fun w h1 hi => ?_
  replace hH := hH.moved h1
  simp only [List.cons_append, List.nil_append, Nat.mul_one] at hH
  have hA := hH.head
  have ha := hH.at_ _ (.tail _ (.head _))
  have hc := hH.at_ _ (.tail _ (.tail _ (.head _)))
  have hq := hH.at_ _ (.tail _ (.tail _ (.tail _ (.head _))))
  obtain ⟨n1, n2⟩ := List.pairwise_cons.1 hH.nd
  obtain ⟨n2, n3⟩ := List.pairwise_cons.1 n2
  obtain ⟨n3, n4⟩ := List.pairwise_cons.1 n3
  obtain ⟨n4, n5⟩ := List.pairwise_cons.1 n4
  have hbm : w.heap[Bm]? = some (.cells #[.int .i64 m] 3) := (hi.2 Bm hzm.1).trans hzm.2
  have hbmE : ¬ E Bm := hH.fx Bm (.inr (.inl hzm.1))
  have hlow : ∀ b, x.Z b → b < w.heap.size := fun b hb => (stabW (ty := 51) (Wg := Wg) hzlt).hlt w b hi (.inr hb)
  refine ⟨rfl, _, _, ch, fun b => b = Bq ∨ b = Bm ∨ b = Ba, stepG_go (d := call18 Wg Bq Bm Ba) rfl rfl (by decide) (fun w => by simp [go_sem, call18, Deferred.ofValue]) (fun w => by simp [go_sem]) rfl w, hc.1, ?_, ?_, ?_⟩
  · rintro b (rfl | rfl | rfl)
    · exact .inl ⟨hq.1, (n3 _ (.head _)).symm⟩
    · exact .inr hzm.1
    · exact .inl ⟨ha.1, n2 _ (.head _)⟩
  · rw [hval]
    refine works18 (.inl rfl) (.inr (.inl rfl)) (.inr (.inr rfl)) ?_ hH.gl hi.1 hq.2 hbm ha.2 hc.2
    rintro b (rfl | rfl | rfl)
    · exact ⟨hH.bd _ hq.1, (n3 _ (.head _)).symm⟩
    · exact ⟨(Array.getElem?_eq_some_iff.1 hbm).1, fun e => hbmE (e ▸ hc.1)⟩
    · exact ⟨hH.bd _ ha.1, n2 _ (.head _)⟩
  · walk_nrm
    refine Way.ctl rfl (fun _ => stepG_region_end) ?_
    refine Way.ctl rfl (fun _ => stepG_inBlock) ?_
    refine Way.ctl rfl (fun _ => stepG_region) ?_
    simp only [List.size_toArray, List.length_cons, List.length_nil, Nat.reduceAdd, Nat.zero_add, List.range, List.range.loop]
    refine Way.op2 rfl rfl (by decide) (op_inc rfl rfl hj) ?_
    walk_nrm
    refine Way.op0 rfl rfl (by decide) (fun _ => by go_simp; rfl) (fun _ => by simp [go_sem]) ?_
    walk_nrm
    refine Way.ctl rfl (fun _ => stepG_region_end) ?_
    refine Way.ctl rfl (fun _ => stepG_inLoop) ?_
    have hcx : ch ∉ x.cbs := fun h => hH.fx ch (.inr (.inr h)) hc.1
    have hL' : LpS L m Bm Q An Wg cq ⟨x.cbs ++ [ch], fun b => x.Z b ∨ (b = Bq ∨ b = Bm ∨ b = Ba), w⟩ (fun b => E b ∧ b ≠ ch ∧ ¬ (b = Bq ∨ b = Bm ∨ b = Ba)) w := by
      refine ⟨⟨arr.setIfInBounds j (Value.chan (some ch)), ⟨fun p hp => ?_, List.pairwise_cons.2 ⟨fun q hq => n1 q (.tail _ (.tail _ (.tail _ hq))), n5⟩, ?_, fun b hb => hH.bd b hb.1, hH.gl⟩, by simp [hsz], fun i c hi' => ?_⟩, ?_, ?_, ?_, ⟨.inl hzm.1, hbm⟩⟩
      · rcases List.mem_cons.1 hp with rfl | hp
        · exact ⟨⟨hA.1, n1 _ (.tail _ (.head _)), fun h => h.elim (n1 _ (.tail _ (.tail _ (.head _)))) fun h => h.elim (fun e => hbmE (e ▸ hA.1)) (n1 _ (.head _))⟩, hA.2⟩
        · have hp' := hH.at_ p (.tail _ (.tail _ (.tail _ (.tail _ hp))))
          exact ⟨⟨hp'.1, (n3 _ (.tail _ hp)).symm, fun h => h.elim (n4 _ hp).symm fun h => h.elim (fun e => hbmE (e ▸ hp'.1)) (n2 _ (.tail _ (.tail _ hp))).symm⟩, hp'.2⟩
      · rintro b (rfl | (hz | hf) | hc') ⟨hE, h1, h2⟩
        · exact hH.fx _ (.inl rfl) hE
        · exact hH.fx _ (.inr (.inl hz)) hE
        · exact h2 hf
        · rcases List.mem_append.1 hc' with hc' | hc'
          · exact hH.fx _ (.inr (.inr hc')) hE
          · exact h1 (List.mem_singleton.1 hc')
      · simp only [List.getElem?_append] at hi'
        split at hi'
        · rename_i hlt'
          rw [Array.getElem?_setIfInBounds_ne (by omega)]
          exact harr i c hi'
        · rename_i hge
          have : i - x.cbs.length = 0 := by
            have := (List.getElem?_eq_some_iff.1 hi').1
            simp only [List.length_cons, List.length_nil] at this
            omega
          rw [this] at hi'
          obtain rfl : i = j := by omega
          simp only [List.getElem?_cons_zero, Option.some.injEq] at hi'
          subst hi'
          rw [Array.getElem?_setIfInBounds_self_of_lt (by omega)]
      · refine List.nodup_append.2 ⟨hnd, by simp, fun u hu v hv e => ?_⟩
        rw [List.mem_singleton.1 hv] at e
        exact hcx (e ▸ hu)
      · intro u hu
        rcases List.mem_append.1 hu with hu | hu
        · obtain ⟨z, hz, hl⟩ := hown u hu
          exact ⟨z, .inl hz, hl⟩
        · rw [List.mem_singleton.1 hu]
          exact ⟨Ba, .inr (.inr (.inr rfl)), hlt⟩
      · rintro b (hb | rfl | rfl | rfl)
        · exact hlow b hb
        · exact hH.bd _ hq.1
        · exact hlow _ hzm.1
        · exact hH.bd _ ha.1
    rw [← hLp]
    exact hnext _ _ _ _ _ _ _ _ _ _ _ _ _ _ _ _ _ _ _ hL' (by simp [hx])
end
end Go.Proofs.Ytjbpaejjpamcpaa.Sim
/- CellSplit: out of the starting loop, into Wait; all rounds; what is known at the join. -/
set_option linter.unusedSectionVars false
namespace Go.Proofs.Ytjbpaejjpamcpaa.Sim
set_option linter.unusedSimpArgs false
set_option linter.unusedVariables false
open Go Go.Conc Go.RowKit Go.Conc.Lib Go.ConcN.Gen Go.ConcR.Gen
open Go.ConcN (WgLive)

noncomputable def c14 : Code := c2 c6
def Phi7 (L : List (Nat × Obj)) (m : Int) (Bm Q An Wg : Nat) (cq : Array Value) (x : Xs) (E : Nat → Prop) (w : World) : Prop := LpS L m Bm Q An Wg cq x E w ∧ x.cbs.length = 4
noncomputable def k14 : List Item := [.inRegion (cops (c1 c14)) [0], .code (c2 c14)]
/-- At the head of Wait's loop. -/
def AnchW7 (L : List (Nat × Obj)) (cs : List Frame) (a b c d m : Int) (Bb Bm Q An qc : Nat) (cq : Array Value) (Wg : Nat) (x : Xs) : St := fun E g w =>
  ∃ s10 s11 s12 s30 s31 s32 s33 s34 s35 s36 s37 s38 s39 s40 s41 s42 : Value, AnchS lnk (Phi7 L m Bm Q An Wg cq) Wg (at7 a b c d m Bb Bm Q An qc Wg ((4 : Nat) : Int) s10 s11 s12 s30 s31 s32 s33 s34 s35 s36 s37 s38 s39 s40 s41 s42 k14) cs x E g w
theorem anchW7_run {L : List (Nat × Obj)} {cs : List Frame} {a b c d m : Int} {Bb Bm Q An qc Wg : Nat} {cq : Array Value} {x : Xs} {E : Nat → Prop} {g : Goroutine} {w : World} (h : AnchW7 L cs a b c d m Bb Bm Q An qc cq Wg x E g w) : g.status = .running := by
  obtain ⟨s10, s11, s12, s30, s31, s32, s33, s34, s35, s36, s37, s38, s39, s40, s41, s42, T, rfl, _⟩ := h
  rfl
theorem jkd_mono {P : Program} {ty : TypeId} {Wg : Nat} {A A' : Xs → St} {x : Xs} (hA : ∀ E g w, A x E g w → A' x E g w) {E : Nat → Prop} {g : Goroutine} {w : World} (h : JKd P ty Wg A x E g w) : JKd P ty Wg A' x E g w :=
  ⟨h.1, let ⟨g', h1, h2⟩ := h.2; ⟨g', h1, h2.mono hA⟩⟩
theorem jw1_mono {P : Program} {ty : TypeId} {Wg j0 : Nat} {val : Nat → Value} {An : St} {A A' : Xs → St} {x : Xs} (hA : ∀ E g w, A x E g w → A' x E g w) {E : Nat → Prop} {g : Goroutine} {w : World} (h : JW1 P ty Wg j0 val An A x E g w) : JW1 P ty Wg j0 val An A' x E g w :=
  ⟨h.1, fun v hv hw => let ⟨g', h1, h2, h3⟩ := h.2 v hv hw; ⟨g', h1, h2, fun hne => (h3 hne).mono fun E g w hj => ⟨hj.1, fun v' hv' hw' => ⟨(hj.2 v' hv' hw').1, fun hne' => let ⟨g'', k1, k2⟩ := (hj.2 v' hv' hw').2 hne'; ⟨g'', k1, k2.mono hA⟩⟩⟩⟩⟩
theorem phi7_rely {L : List (Nat × Obj)} {m : Int} {Bm Q An Wg : Nat} {cq : Array Value} {x : Xs} {E : Nat → Prop} (w w' : World) (hr : Rely E w w') (h : Phi7 L m Bm Q An Wg cq x E w) : Phi7 L m Bm Q An Wg cq x E w' := ⟨h.1.moved hr, h.2⟩
section
variable {E : Nat → Prop} {w : World} {L : List (Nat × Obj)} {cs : List Frame} {a b c d m : Int} {Bb Bm Q An qc Wg j0 : Nat} {s10 s11 s12 s30 s31 s32 s33 s34 s35 s36 s37 s38 s39 s40 s41 s42 : Value} {x : Xs} {cq : Array Value} {val : Nat → Value}
set_option maxRecDepth 100000 in
set_option maxHeartbeats 8000000 in
theorem wait7 (hL : LpS L m Bm Q An Wg cq x E w) (hx : x.cbs.length = 4) :
    MW Try.prog 51 Wg x (JKd Try.prog 51 Wg (AnchW7 L cs a b c d m Bb Bm Q An qc cq Wg) x) E (G (at7 a b c d m Bb Bm Q An qc Wg ((4 : Nat) : Int) s10 s11 s12 s30 s31 s32 s33 s34 s35 s36 s37 s38 s39 s40 s41 s42 [.code lp7, .inLoop lp7, .inBlock 0, .code c14]) cs) w := by
  unfold at7
  simp only [c14, lp7, c6, c5, c1, c2, body7, Try.f7, Option.getD_some]
  refine Way.ctl rfl (fun _ => stepG_seq) ?_
  refine Way.ctl rfl (fun _ => stepG_region) ?_
  simp only [List.size_toArray, List.length_cons, List.length_nil, Nat.reduceAdd, Nat.zero_add, List.range, List.range.loop]
  refine Way.op2 rfl rfl (by decide) (op_lss (n := 4) rfl rfl rfl) ?_
  walk_nrm
  refine Way.ctl rfl (fun _ => stepG_region_end) ?_
  refine Way.ctl rfl (fun _ => stepG_seq) ?_
  refine Way.ctl rfl (fun _ => stepG_cond (t := false) (by simp [Act.eval])) ?_
  simp only [if_true, if_false, Bool.false_eq_true, ↓reduceIte]
  refine Way.ctl rfl (fun _ => stepG_exit rfl) ?_
  refine Way.ctl rfl (fun _ => stepG_seq) ?_
  refine Way.ctl rfl (fun _ => stepG_region) ?_
  simp only [List.size_toArray, List.length_cons, List.length_nil, Nat.reduceAdd, Nat.zero_add, List.range, List.range.loop]
  refine Way.enter rfl rfl (by decide) rfl wgLib.f_wait (nm_wait lnk) rfl ?_
  walk_nrmf waitFn
  refine Way.rely fun w hr hi => ?_
  replace hL := hL.moved hr
  refine Way.mono (mw_goes 3 (waitStartS (Φ := Phi7 L m Bm Q An Wg cq) wgLib phi7_rely w ⟨⟨hL, hx⟩, hi.1⟩)) fun E g w h => jkd_mono (fun E g w h => ?_) h
  exact ⟨_, _, _, _, _, _, _, _, _, _, _, _, _, _, _, _, h⟩

theorem spawn7 (hz : ∀ k j, k < 4 → j < 4 → cq[k * 4 + j]? = some (.int .i64 (qv j a b c d k))) (hval : ∀ i, i < 4 → val (j0 + i) = .int .i64 (qst a b c d m i)) : ∀ (r j : Nat) (x : Xs) (E : Nat → Prop) (w : World) (s10 s11 s12 s30 s31 s32 s33 s34 s35 s36 s37 s38 s39 s40 s41 s42 : Value), j + r = 4 → LpS L m Bm Q An Wg cq x E w → x.cbs.length = j →
    Spawns Try.prog 51 Wg (j0 + 4) val (Into Try.prog 51 Wg (AnchW7 L cs a b c d m Bb Bm Q An qc cq Wg)) r x E (G (at7 a b c d m Bb Bm Q An qc Wg (j : Int) s10 s11 s12 s30 s31 s32 s33 s34 s35 s36 s37 s38 s39 s40 s41 s42 [.code lp7, .inLoop lp7, .inBlock 0, .code c14]) cs) w
  | 0, j, x, E, w, s10, s11, s12, s30, s31, s32, s33, s34, s35, s36, s37, s38, s39, s40, s41, s42, hj, hL, hx => by
    obtain rfl : j = 4 := by omega
    exact wait7 hL hx
  | r + 1, j, x, E, w, s10, s11, s12, s30, s31, s32, s33, s34, s35, s36, s37, s38, s39, s40, s41, s42, hj, hL, hx => by
    show MW _ _ _ _ (MKd _ _ _ _ _ _ _) _ _ _
    rw [spawns_ns, show j0 + 4 - (r + 1) = j0 + j by omega]
    refine round7 hz (by omega) (hval j (by omega)) hL hx fun x' E' w' s10 s11 s12 s30 s31 s32 s33 s34 s35 s36 s37 s38 s39 s40 s41 s42 hL' hx' => ?_
    have := spawn7 hz hval r (j + 1) x' E' w' s10 s11 s12 s30 s31 s32 s33 s34 s35 s36 s37 s38 s39 s40 s41 s42 (by omega) hL' hx'
    rw [spawns_ns] at this
    exact this
end
end Go.Proofs.Ytjbpaejjpamcpaa.Sim
/- CellSplit: from behind the join to its return; what the join hands on. -/
set_option linter.unusedSectionVars false
namespace Go.Proofs.Ytjbpaejjpamcpaa.Sim
set_option linter.unusedSimpArgs false
set_option linter.unusedVariables false
open Go Go.Conc Go.RowKit Go.Conc.Lib Go.ConcN.Gen Go.ConcR.Gen
open Go.ConcN (WgLive)
open Go.ConcR (DC0)

theorem Has.drop2 {Gl : Nat} {Fx E : Nat → Prop} {w : World} {p q : Nat × Obj} {L : List (Nat × Obj)} (h : Has Gl Fx E w (p :: q :: L)) : Has Gl Fx E w (p :: L) := (h.perm (List.Perm.swap _ _ _)).tail
section
variable {mn : Bool} {Fr : Nat → Prop} {Inv : World → Prop} {Stop : (Nat → Prop) → Goroutine → World → Prop} {E : Nat → Prop} {w : World} {Gl : Nat} {Fx : Nat → Prop}
  {b : Frame} {a : Act} {kk : List Item} {cs : List Frame} {ops : Array Oper} {i : Nat} {rest : List Nat} {o : Oper} {L : List (Nat × Obj)} {B S n : Nat}
theorem Way.recv1 {P : Program} {z v : Value} (hI : Stab Fx Inv) (hH : Has Gl Fx E w ((B, full1 v) :: L)) (ho : ops[i]? = some o) (hw : Region.wanted o (yielded ops a.tmps) = true) (hk : b.kind ≠ .early)
    (hr : ∀ w, (execOp a.eval o).run P w = .ok (.comm #[rcase B z] true (.recv false)) w) (he : ∀ w, (execOp a.eval o).events P w #[] = #[])
    (k : ∀ w', Has Gl Fx E w' L → Way P mn Fr Inv Stop E (G (b.at (a.put o.dst v) (.inRegion ops rest :: kk)) cs) w') : Way P mn Fr Inv Stop E (G (b.at a (.inRegion ops (i :: rest) :: kk)) cs) w :=
  .recv hI hH ho hw hk (by show 0 < 1; decide) hr he fun w' h => k w' h.tail
theorem Way.append {x y : Operand} {cz : Array Value} {v : Int} {Bs : Nat} (hI : Stab Fx Inv) (hH : Has Gl Fx E w ((Bs, .cells #[.int .i64 v] 3) :: (S, .cells cz 3) :: L)) (hn : n < 4) (hs : cz.size = 4) (ho : ops[i]? = some o) (hw : Region.wanted o (yielded ops a.tmps) = true) (hk : b.kind ≠ .early)
    (hop : o.op = .call { callee := .builtin .append, args := #[x, y], argTypes := #[24, 24] }) (hty : o.type = 24)
    (hx : a.eval x = .slice (some ⟨S, 0, none⟩) n 4) (hy : a.eval y = .slice (some ⟨Bs, 0, none⟩) 1 1)
    (k : ∀ w', Has Gl Fx E w' ((S, .cells (cz.setIfInBounds n (.int .i64 v)) 3) :: L) → Way Try.prog mn Fr Inv Stop E (G (b.at (a.put o.dst (.slice (some ⟨S, 0, none⟩) (n + 1) 4)) (.inRegion ops rest :: kk)) cs) w') : Way Try.prog mn Fr Inv Stop E (G (b.at a (.inRegion ops (i :: rest) :: kk)) cs) w :=
  .set hI (hH.perm (List.Perm.swap _ _ _)) ho hw hk (fun w E h => let ⟨w', r, s, e⟩ := op_append hn hs hop hty hx hy w h.head.2 (h.at_ _ (.tail _ (.head _))).2; ⟨w', .inl r, s, fun z hz => (e z hz).imp (fun ⟨ad, e1, e2⟩ => ⟨ad, e1, by
    rcases e2 with e2 | e2 <;> rw [e2]
    · exact h.head.1
    · exact (h.at_ _ (.tail _ (.head _))).1⟩) id⟩) fun w' h => k w' h.drop2
end
section
variable {Fr : Nat → Prop} {Inv : World → Prop} {Stop : (Nat → Prop) → Goroutine → World → Prop} {E : Nat → Prop} {w : World} {Fx : Nat → Prop} {L : List (Nat × Obj)} {b₀ : Frame} {a₀ : Act} {ops₀ : Array Oper} {i₀ : Nat} {rest₀ : List Nat} {k₀ : List Item} {cs : List Frame} {a b c d m : Int} {Bb Bm Q An qc Wg h0 h1 h2 h3 : Nat} {v0 v1 v2 v3 : Int} {s10 s11 s12 s30 s31 s32 s33 s34 s35 s36 s37 s38 s39 s40 s41 s42 : Value} {arr : Array Value}
set_option maxRecDepth 100000 in
set_option maxHeartbeats 8000000 in
theorem after7 (hI : Stab Fx Inv) (hH : Has Try.prog.globals.size Fx E w ((h0, full1 (.int .i64 v0)) :: (h1, full1 (.int .i64 v1)) :: (h2, full1 (.int .i64 v2)) :: (h3, full1 (.int .i64 v3)) :: (An, .cells arr 52) :: L))
    (e0 : arr[0]? = some (Value.chan (some h0))) (e1 : arr[1]? = some (Value.chan (some h1))) (e2 : arr[2]? = some (Value.chan (some h2))) (e3 : arr[3]? = some (Value.chan (some h3)))
    (k : ∀ S E' w', Has Try.prog.globals.size Fx E' w' ((S, .cells #[.int .i64 v0, .int .i64 v1, .int .i64 v2, .int .i64 v3] 3) :: L) →
      Way Try.prog true Fr Inv Stop E' (G (b₀.at (a₀.put ((ops₀[i₀]?).bind (·.dst)) (.tuple #[.slice (some ⟨S, 0, none⟩) 4 4, .bool true])) (.inRegion ops₀ rest₀ :: k₀)) cs) w') :
    Way Try.prog true Fr Inv Stop E (G (at7 a b c d m Bb Bm Q An qc Wg ((4 : Nat) : Int) s10 s11 s12 s30 s31 s32 s33 s34 s35 s36 s37 s38 s39 s40 s41 s42 [.inRegion (cops (c1 c14)) [], .code (c2 c14)]) (b₀.at a₀ (.inRegion ops₀ (i₀ :: rest₀) :: k₀) :: cs)) w := by
  unfold at7
  simp only [c14, c6, c5, cops, c1, c2, body7, Try.f7, Option.getD_some]
  refine Way.ctl rfl (fun _ => stepG_region_end) ?_
  refine Way.ctl rfl (fun _ => stepG_seq) ?_
  refine Way.ctl rfl (fun _ => stepG_region) ?_
  simp only [List.size_toArray, List.length_cons, List.length_nil, Nat.reduceAdd, Nat.zero_add, List.range, List.range.loop]
  refine Way.op0 rfl rfl (by decide) (fun _ => by go_simp; rfl) (fun _ => by simp [go_sem]) ?_
  walk_nrm
  refine Way.op0 rfl rfl (by decide) (fun _ => by go_simp; rfl) (fun _ => by simp [go_sem]) ?_
  walk_nrm
  refine Way.alloc (f := fun B => .slice (some ⟨B, 0, none⟩) 0 4) hI hH rfl rfl (by decide) (op_make24 rfl rfl rfl) (fun S E w hH hS => ?_)
  walk_nrm
  refine Way.op0 rfl rfl (by decide) (fun _ => by go_simp; rfl) (fun _ => by simp [go_sem]) ?_
  walk_nrm
  refine Way.ctl rfl (fun _ => stepG_region_end) ?_
  refine Way.ctl rfl (fun _ => stepG_seq) ?_
  refine Way.ctl rfl (fun _ => stepG_seq) ?_
  refine Way.ctl rfl (fun _ => stepG_region) ?_
  simp only [List.size_toArray, List.length_cons, List.length_nil, Nat.reduceAdd, Nat.zero_add, List.range, List.range.loop]
  refine Way.op0 rfl rfl (by decide) (fun _ => by go_simp; rfl) (fun _ => by simp [go_sem]) ?_
  walk_nrm
  refine Way.op0 rfl rfl (by decide) (fun _ => by go_simp; rfl) (fun _ => by simp [go_sem]) ?_
  walk_nrm
  refine Way.op0 rfl rfl (by decide) (fun _ => by go_simp; rfl) (fun _ => by simp [go_sem]) ?_
  walk_nrm
  refine Way.ctl rfl (fun _ => stepG_region_end) ?_
  refine Way.ctl rfl (fun _ => stepG_block) ?_
  refine Way.ctl rfl (fun _ => stepG_loop) ?_
  refine Way.ctl rfl (fun _ => stepG_seq) ?_
  refine Way.ctl rfl (fun _ => stepG_region) ?_
  simp only [List.size_toArray, List.length_cons, List.length_nil, Nat.reduceAdd, Nat.zero_add, List.range, List.range.loop]
  refine Way.op0 rfl rfl (by decide) (fun _ => by go_simp; rfl) (fun _ => by simp [go_sem]) ?_
  walk_nrm
  refine Way.ctl rfl (fun _ => stepG_region_end) ?_
  refine Way.ctl rfl (fun _ => stepG_seq) ?_
  refine Way.ctl rfl (fun _ => stepG_cond (t := true) rfl) ?_
  simp only [if_true, if_false, Bool.false_eq_true, ↓reduceIte]
  refine Way.ctl rfl (fun _ => stepG_skip) ?_
  refine Way.ctl rfl (fun _ => stepG_seq) ?_
  refine Way.ctl rfl (fun _ => stepG_block) ?_
  refine Way.ctl rfl (fun _ => stepG_seq) ?_
  refine Way.ctl rfl (fun _ => stepG_region) ?_
  simp only [List.size_toArray, List.length_cons, List.length_nil, Nat.reduceAdd, Nat.zero_add, List.range, List.range.loop]
  refine Way.op2 rfl rfl (by decide) (op_iaddr (j := 0) (.inr ⟨rfl, rfl⟩) rfl rfl rfl (by decide)) ?_
  walk_nrm
  refine Way.load hH (.tail _ (.tail _ (.tail _ (.tail _ (.tail _ (.head _)))))) rfl rfl (by decide) (op_load1 (.inr rfl) rfl rfl e0) ?_
  walk_nrm
  refine Way.op0 rfl rfl (by decide) (fun _ => by go_simp; rfl) (fun _ => by simp [go_sem]) ?_
  walk_nrm
  refine Way.ctl rfl (fun _ => stepG_region_end) ?_
  refine Way.ctl rfl (fun _ => stepG_region) ?_
  simp only [List.size_toArray, List.length_cons, List.length_nil, Nat.reduceAdd, Nat.zero_add, List.range, List.range.loop]
  refine Way.op0 rfl rfl (by decide) (fun _ => by go_simp; rfl) (fun _ => by simp [go_sem]) ?_
  walk_nrm
  refine Way.op0 rfl rfl (by decide) (fun _ => by go_simp; rfl) (fun _ => by simp [go_sem]) ?_
  walk_nrm
  replace hH := hH.perm (List.Perm.swap _ _ _)
  refine Way.recv1 (v := .int .i64 v0) (z := .int .i64 0) hI hH rfl rfl (by decide) (fun _ => by go_simp; rfl) (fun _ => by simp [go_sem]) (fun w hH => ?_)
  walk_nrm
  refine Way.alloc (f := fun B => .slice (some ⟨B, 0, none⟩) 1 1) hI hH rfl rfl (by decide) (op_build1 rfl rfl) (fun Bs E w hH hBs => ?_)
  walk_nrm
  refine Way.append (n := 0) (v := v0) hI hH (by decide) rfl rfl rfl (by decide) rfl rfl rfl rfl (fun w hH => ?_)
  walk_nrm
  simp only [List.setIfInBounds_toArray, List.set_cons_zero, List.set_cons_succ] at hH
  refine Way.op0 rfl rfl (by decide) (fun _ => by go_simp; rfl) (fun _ => by simp [go_sem]) ?_
  walk_nrm
  refine Way.ctl rfl (fun _ => stepG_region_end) ?_
  refine Way.ctl rfl (fun _ => stepG_inBlock) ?_
  refine Way.ctl rfl (fun _ => stepG_region) ?_
  simp only [List.size_toArray, List.length_cons, List.length_nil, Nat.reduceAdd, Nat.zero_add, List.range, List.range.loop]
  refine Way.op0 rfl rfl (by decide) (fun _ => by go_simp; rfl) (fun _ => by simp [go_sem]) ?_
  walk_nrm
  refine Way.op0 rfl rfl (by decide) (fun _ => by go_simp; rfl) (fun _ => by simp [go_sem]) ?_
  walk_nrm
  refine Way.ctl rfl (fun _ => stepG_region_end) ?_
  refine Way.ctl rfl (fun _ => stepG_inLoop) ?_
  refine Way.ctl rfl (fun _ => stepG_seq) ?_
  refine Way.ctl rfl (fun _ => stepG_region) ?_
  simp only [List.size_toArray, List.length_cons, List.length_nil, Nat.reduceAdd, Nat.zero_add, List.range, List.range.loop]
  refine Way.op0 rfl rfl (by decide) (fun _ => by go_simp; rfl) (fun _ => by simp [go_sem]) ?_
  walk_nrm
  refine Way.ctl rfl (fun _ => stepG_region_end) ?_
  refine Way.ctl rfl (fun _ => stepG_seq) ?_
  refine Way.ctl rfl (fun _ => stepG_cond (t := true) rfl) ?_
  simp only [if_true, if_false, Bool.false_eq_true, ↓reduceIte]
  refine Way.ctl rfl (fun _ => stepG_skip) ?_
  refine Way.ctl rfl (fun _ => stepG_seq) ?_
  refine Way.ctl rfl (fun _ => stepG_block) ?_
  refine Way.ctl rfl (fun _ => stepG_seq) ?_
  refine Way.ctl rfl (fun _ => stepG_region) ?_
  simp only [List.size_toArray, List.length_cons, List.length_nil, Nat.reduceAdd, Nat.zero_add, List.range, List.range.loop]
  refine Way.op2 rfl rfl (by decide) (op_iaddr (j := 1) (.inr ⟨rfl, rfl⟩) rfl rfl rfl (by decide)) ?_
  walk_nrm
  refine Way.load hH (.tail _ (.tail _ (.tail _ (.tail _ (.head _))))) rfl rfl (by decide) (op_load1 (.inr rfl) rfl rfl e1) ?_
  walk_nrm
  refine Way.op0 rfl rfl (by decide) (fun _ => by go_simp; rfl) (fun _ => by simp [go_sem]) ?_
  walk_nrm
  refine Way.ctl rfl (fun _ => stepG_region_end) ?_
  refine Way.ctl rfl (fun _ => stepG_region) ?_
  simp only [List.size_toArray, List.length_cons, List.length_nil, Nat.reduceAdd, Nat.zero_add, List.range, List.range.loop]
  refine Way.op0 rfl rfl (by decide) (fun _ => by go_simp; rfl) (fun _ => by simp [go_sem]) ?_
  walk_nrm
  refine Way.op0 rfl rfl (by decide) (fun _ => by go_simp; rfl) (fun _ => by simp [go_sem]) ?_
  walk_nrm
  replace hH := hH.perm (List.Perm.swap _ _ _)
  refine Way.recv1 (v := .int .i64 v1) (z := .int .i64 0) hI hH rfl rfl (by decide) (fun _ => by go_simp; rfl) (fun _ => by simp [go_sem]) (fun w hH => ?_)
  walk_nrm
  refine Way.alloc (f := fun B => .slice (some ⟨B, 0, none⟩) 1 1) hI hH rfl rfl (by decide) (op_build1 rfl rfl) (fun Bs E w hH hBs => ?_)
  walk_nrm
  refine Way.append (n := 1) (v := v1) hI hH (by decide) rfl rfl rfl (by decide) rfl rfl rfl rfl (fun w hH => ?_)
  walk_nrm
  simp only [List.setIfInBounds_toArray, List.set_cons_zero, List.set_cons_succ] at hH
  refine Way.op0 rfl rfl (by decide) (fun _ => by go_simp; rfl) (fun _ => by simp [go_sem]) ?_
  walk_nrm
  refine Way.ctl rfl (fun _ => stepG_region_end) ?_
  refine Way.ctl rfl (fun _ => stepG_inBlock) ?_
  refine Way.ctl rfl (fun _ => stepG_region) ?_
  simp only [List.size_toArray, List.length_cons, List.length_nil, Nat.reduceAdd, Nat.zero_add, List.range, List.range.loop]
  refine Way.op0 rfl rfl (by decide) (fun _ => by go_simp; rfl) (fun _ => by simp [go_sem]) ?_
  walk_nrm
  refine Way.op0 rfl rfl (by decide) (fun _ => by go_simp; rfl) (fun _ => by simp [go_sem]) ?_
  walk_nrm
  refine Way.ctl rfl (fun _ => stepG_region_end) ?_
  refine Way.ctl rfl (fun _ => stepG_inLoop) ?_
  refine Way.ctl rfl (fun _ => stepG_seq) ?_
  refine Way.ctl rfl (fun _ => stepG_region) ?_
  simp only [List.size_toArray, List.length_cons, List.length_nil, Nat.reduceAdd, Nat.zero_add, List.range, List.range.loop]
  refine Way.op0 rfl rfl (by decide) (fun _ => by go_simp; rfl) (fun _ => by simp [go_sem]) ?_
  walk_nrm
  refine Way.ctl rfl (fun _ => stepG_region_end) ?_
  refine Way.ctl rfl (fun _ => stepG_seq) ?_
  refine Way.ctl rfl (fun _ => stepG_cond (t := true) rfl) ?_
  simp only [if_true, if_false, Bool.false_eq_true, ↓reduceIte]
  refine Way.ctl rfl (fun _ => stepG_skip) ?_
  refine Way.ctl rfl (fun _ => stepG_seq) ?_
  refine Way.ctl rfl (fun _ => stepG_block) ?_
  refine Way.ctl rfl (fun _ => stepG_seq) ?_
  refine Way.ctl rfl (fun _ => stepG_region) ?_
  simp only [List.size_toArray, List.length_cons, List.length_nil, Nat.reduceAdd, Nat.zero_add, List.range, List.range.loop]
  refine Way.op2 rfl rfl (by decide) (op_iaddr (j := 2) (.inr ⟨rfl, rfl⟩) rfl rfl rfl (by decide)) ?_
  walk_nrm
  refine Way.load hH (.tail _ (.tail _ (.tail _ (.head _)))) rfl rfl (by decide) (op_load1 (.inr rfl) rfl rfl e2) ?_
  walk_nrm
  refine Way.op0 rfl rfl (by decide) (fun _ => by go_simp; rfl) (fun _ => by simp [go_sem]) ?_
  walk_nrm
  refine Way.ctl rfl (fun _ => stepG_region_end) ?_
  refine Way.ctl rfl (fun _ => stepG_region) ?_
  simp only [List.size_toArray, List.length_cons, List.length_nil, Nat.reduceAdd, Nat.zero_add, List.range, List.range.loop]
  refine Way.op0 rfl rfl (by decide) (fun _ => by go_simp; rfl) (fun _ => by simp [go_sem]) ?_
  walk_nrm
  refine Way.op0 rfl rfl (by decide) (fun _ => by go_simp; rfl) (fun _ => by simp [go_sem]) ?_
  walk_nrm
  replace hH := hH.perm (List.Perm.swap _ _ _)
  refine Way.recv1 (v := .int .i64 v2) (z := .int .i64 0) hI hH rfl rfl (by decide) (fun _ => by go_simp; rfl) (fun _ => by simp [go_sem]) (fun w hH => ?_)
  walk_nrm
  refine Way.alloc (f := fun B => .slice (some ⟨B, 0, none⟩) 1 1) hI hH rfl rfl (by decide) (op_build1 rfl rfl) (fun Bs E w hH hBs => ?_)
  walk_nrm
  refine Way.append (n := 2) (v := v2) hI hH (by decide) rfl rfl rfl (by decide) rfl rfl rfl rfl (fun w hH => ?_)
  walk_nrm
  simp only [List.setIfInBounds_toArray, List.set_cons_zero, List.set_cons_succ] at hH
  refine Way.op0 rfl rfl (by decide) (fun _ => by go_simp; rfl) (fun _ => by simp [go_sem]) ?_
  walk_nrm
  refine Way.ctl rfl (fun _ => stepG_region_end) ?_
  refine Way.ctl rfl (fun _ => stepG_inBlock) ?_
  refine Way.ctl rfl (fun _ => stepG_region) ?_
  simp only [List.size_toArray, List.length_cons, List.length_nil, Nat.reduceAdd, Nat.zero_add, List.range, List.range.loop]
  refine Way.op0 rfl rfl (by decide) (fun _ => by go_simp; rfl) (fun _ => by simp [go_sem]) ?_
  walk_nrm
  refine Way.op0 rfl rfl (by decide) (fun _ => by go_simp; rfl) (fun _ => by simp [go_sem]) ?_
  walk_nrm
  refine Way.ctl rfl (fun _ => stepG_region_end) ?_
  refine Way.ctl rfl (fun _ => stepG_inLoop) ?_
  refine Way.ctl rfl (fun _ => stepG_seq) ?_
  refine Way.ctl rfl (fun _ => stepG_region) ?_
  simp only [List.size_toArray, List.length_cons, List.length_nil, Nat.reduceAdd, Nat.zero_add, List.range, List.range.loop]
  refine Way.op0 rfl rfl (by decide) (fun _ => by go_simp; rfl) (fun _ => by simp [go_sem]) ?_
  walk_nrm
  refine Way.ctl rfl (fun _ => stepG_region_end) ?_
  refine Way.ctl rfl (fun _ => stepG_seq) ?_
  refine Way.ctl rfl (fun _ => stepG_cond (t := true) rfl) ?_
  simp only [if_true, if_false, Bool.false_eq_true, ↓reduceIte]
  refine Way.ctl rfl (fun _ => stepG_skip) ?_
  refine Way.ctl rfl (fun _ => stepG_seq) ?_
  refine Way.ctl rfl (fun _ => stepG_block) ?_
  refine Way.ctl rfl (fun _ => stepG_seq) ?_
  refine Way.ctl rfl (fun _ => stepG_region) ?_
  simp only [List.size_toArray, List.length_cons, List.length_nil, Nat.reduceAdd, Nat.zero_add, List.range, List.range.loop]
  refine Way.op2 rfl rfl (by decide) (op_iaddr (j := 3) (.inr ⟨rfl, rfl⟩) rfl rfl rfl (by decide)) ?_
  walk_nrm
  refine Way.load hH (.tail _ (.tail _ (.head _))) rfl rfl (by decide) (op_load1 (.inr rfl) rfl rfl e3) ?_
  walk_nrm
  refine Way.op0 rfl rfl (by decide) (fun _ => by go_simp; rfl) (fun _ => by simp [go_sem]) ?_
  walk_nrm
  refine Way.ctl rfl (fun _ => stepG_region_end) ?_
  refine Way.ctl rfl (fun _ => stepG_region) ?_
  simp only [List.size_toArray, List.length_cons, List.length_nil, Nat.reduceAdd, Nat.zero_add, List.range, List.range.loop]
  refine Way.op0 rfl rfl (by decide) (fun _ => by go_simp; rfl) (fun _ => by simp [go_sem]) ?_
  walk_nrm
  refine Way.op0 rfl rfl (by decide) (fun _ => by go_simp; rfl) (fun _ => by simp [go_sem]) ?_
  walk_nrm
  replace hH := hH.perm (List.Perm.swap _ _ _)
  refine Way.recv1 (v := .int .i64 v3) (z := .int .i64 0) hI hH rfl rfl (by decide) (fun _ => by go_simp; rfl) (fun _ => by simp [go_sem]) (fun w hH => ?_)
  walk_nrm
  refine Way.alloc (f := fun B => .slice (some ⟨B, 0, none⟩) 1 1) hI hH rfl rfl (by decide) (op_build1 rfl rfl) (fun Bs E w hH hBs => ?_)
  walk_nrm
  refine Way.append (n := 3) (v := v3) hI hH (by decide) rfl rfl rfl (by decide) rfl rfl rfl rfl (fun w hH => ?_)
  walk_nrm
  simp only [List.setIfInBounds_toArray, List.set_cons_zero, List.set_cons_succ] at hH
  refine Way.op0 rfl rfl (by decide) (fun _ => by go_simp; rfl) (fun _ => by simp [go_sem]) ?_
  walk_nrm
  refine Way.ctl rfl (fun _ => stepG_region_end) ?_
  refine Way.ctl rfl (fun _ => stepG_inBlock) ?_
  refine Way.ctl rfl (fun _ => stepG_region) ?_
  simp only [List.size_toArray, List.length_cons, List.length_nil, Nat.reduceAdd, Nat.zero_add, List.range, List.range.loop]
  refine Way.op0 rfl rfl (by decide) (fun _ => by go_simp; rfl) (fun _ => by simp [go_sem]) ?_
  walk_nrm
  refine Way.op0 rfl rfl (by decide) (fun _ => by go_simp; rfl) (fun _ => by simp [go_sem]) ?_
  walk_nrm
  refine Way.ctl rfl (fun _ => stepG_region_end) ?_
  refine Way.ctl rfl (fun _ => stepG_inLoop) ?_
  refine Way.ctl rfl (fun _ => stepG_seq) ?_
  refine Way.ctl rfl (fun _ => stepG_region) ?_
  simp only [List.size_toArray, List.length_cons, List.length_nil, Nat.reduceAdd, Nat.zero_add, List.range, List.range.loop]
  refine Way.op0 rfl rfl (by decide) (fun _ => by go_simp; rfl) (fun _ => by simp [go_sem]) ?_
  walk_nrm
  refine Way.ctl rfl (fun _ => stepG_region_end) ?_
  refine Way.ctl rfl (fun _ => stepG_seq) ?_
  refine Way.ctl rfl (fun _ => stepG_cond (t := false) rfl) ?_
  simp only [if_true, if_false, Bool.false_eq_true, ↓reduceIte]
  refine Way.ctl rfl (fun _ => stepG_exit rfl) ?_
  refine Way.ctl rfl (fun _ => stepG_seq) ?_
  refine Way.ctl rfl (fun _ => stepG_region) ?_
  simp only [List.size_toArray, List.length_cons, List.length_nil, Nat.reduceAdd, Nat.zero_add, List.range, List.range.loop]
  refine Way.op0 rfl rfl (by decide) (fun _ => by go_simp; rfl) (fun _ => by simp [go_sem]) ?_
  walk_nrm
  refine Way.op0 rfl rfl (by decide) (fun _ => by go_simp; rfl) (fun _ => by simp [go_sem]) ?_
  walk_nrm
  refine Way.op0 rfl rfl (by decide) (fun _ => by go_simp; rfl) (fun _ => by simp [go_sem]) ?_
  walk_nrm
  refine Way.ctl rfl (fun _ => stepG_region_end) ?_
  refine Way.ctl rfl (fun _ => stepG_ret') ?_
  refine Way.leave2 rfl rfl Try.func7 rfl ?_
  walk_nrm
  exact k _ _ _ hH.drop2
end
end Go.Proofs.Ytjbpaejjpamcpaa.Sim
/- ████ CellSplit of a valid box: from where its group is laid to its return, on whatever tape ('split_run'). ████ -/
set_option linter.unusedSectionVars false
namespace Go.Proofs.Ytjbpaejjpamcpaa.Sim
set_option linter.unusedSimpArgs false
set_option linter.unusedVariables false
open Go Go.Conc Go.RowKit Go.Conc.Lib Go.ConcN.Gen Go.ConcR.Gen
open Go.ConcN (WgLive)
open Go.ConcR (DC0 wgBlock)

/-- A walk that turns nothing keeps what others leave alone. -/
theorem goes_keep {P : Program} {mn : Bool} {R : World → World → Prop} {S : Goroutine → World → Prop} {J : World → Prop} (hJ : ∀ w w₁, R w w₁ → J w → J w₁) : ∀ (n : Nat) (g : Goroutine) (w : World), J w → Goes P mn R DC0 S n g w → Goes P mn R DC0 (fun g w => S g w ∧ J w) n g w
  | 0, g, w, j, h => fun w₁ h1 => ⟨h w₁ h1, hJ w w₁ h1 j⟩
  | n + 1, g, w, j, h => by
    rcases h with h | ⟨hs, h⟩
    · exact .inl fun w₁ h1 => ⟨h w₁ h1, hJ w w₁ h1 j⟩
    · refine .inr ⟨hs, fun w₁ h1 => ?_⟩
      have := h w₁ h1
      cases e : stepG P mn g w₁ with
      | go g' w' es =>
        rw [e, goes_go] at this
        rw [goes_go]
        obtain ⟨⟨rfl, rfl⟩, hg⟩ := this
        exact ⟨⟨rfl, rfl⟩, goes_keep hJ n g' _ (hJ w _ h1 j) hg⟩
      | _ => rw [e] at this; exact this.elim
theorem Fra.sub {P : Program} {Q : Nat → Prop} {J : Nat} {gs : Array Goroutine} {w : World} {t : Trace} {q : Nat → Nat} {E E' : Nat → Prop} (h : Fra P Q J gs w t q E) (hE : ∀ b, E' b → E b) : Fra P Q J gs w t q E' :=
  ⟨h.size, h.wk, h.ct, h.deaf0, h.seen, h.over, h.norel, fun b hb => h.eB b (hE b hb), h.qB⟩

abbrev NoF : Nat → Prop := fun _ => False
abbrev Tr : World → Prop := fun _ => True
theorem stab0 : Stab NoF Tr := ⟨fun _ _ _ _ => trivial, fun _ _ _ h => h.elim⟩
/-- Goroutine 0's way, while it is alone among leavers. -/
abbrev MainW (Stop : St) : St := fun E g w => Way Try.prog true NoF Tr Stop E g w

/-- .. once the group is laid. -/
noncomputable def at5' (a b c d m : Int) (Bb Bm Q An qc Wg : Nat) : Frame := (base 7).at ⟨#[bx a b c d, .int .i64 m, .pointer (some ⟨Bb, 0, none⟩), .pointer (some ⟨Bm, 0, none⟩), .slice none 0 0, .bool false, .slice (some ⟨Q, 0, none⟩) 4 qc, .bool true, .slice (some ⟨An, 0, none⟩) 4 4, .pointer (some ⟨Wg, 0, none⟩), undef, undef, undef, undef, undef, undef, .tuple #[.slice (some ⟨Q, 0, none⟩) 4 qc, .bool true], bx a b c d, .tuple #[.slice (some ⟨Q, 0, none⟩) 4 qc, .bool true], .slice (some ⟨Q, 0, none⟩) 4 qc, .bool true, .bool true, .bool false, undef, .slice (some ⟨Q, 0, none⟩) 4 qc, .int .i64 4, .slice (some ⟨An, 0, none⟩) 4 4, undef, undef, undef, undef, undef, undef, undef, undef, undef, undef, undef, undef, undef, undef, undef, undef, undef, undef, undef, undef, undef, undef, undef, undef, undef, undef, undef, undef, undef, undef, undef, undef], []⟩ [.inRegion (cops (c1 c5)) [], .code c6]
section
variable {Q0 : Nat → Prop} {gs : Array Goroutine} {w : World} {sl : Option (Nat × Nat)} {t : Trace} {q : Nat → Nat} {E : Nat → Prop} {L : List (Nat × Obj)} {b₀ : Frame} {a₀ : Act} {ops₀ : Array Oper} {i₀ : Nat} {rest₀ : List Nat} {k₀ : List Item} {cs : List Frame} {a b c d m : Int} {Bb Bm Q An qc j0 : Nat} {cq : Array Value} {Stop : St}
/-- Behind the join: the rest of CellSplit. -/
theorem join7 {val : Nat → Value} (hval : ∀ i, i < 4 → val (j0 + i) = .int .i64 (qst a b c d m i)) {s10 s11 s12 s30 s31 s32 s33 s34 s35 s36 s37 s38 s39 s40 s41 s42 : Value} {Wg : Nat} {x : Xs}
    (k : ∀ S E' w', Has Try.prog.globals.size NoF E' w' ((S, .cells #[.int .i64 (qst a b c d m 0), .int .i64 (qst a b c d m 1), .int .i64 (qst a b c d m 2), .int .i64 (qst a b c d m 3)] 3) :: L) →
      MainW Stop E' (G (b₀.at (a₀.put ((ops₀[i₀]?).bind (·.dst)) (.tuple #[.slice (some ⟨S, 0, none⟩) 4 4, .bool true])) (.inRegion ops₀ rest₀ :: k₀)) cs) w') (w : World) (g : Goroutine)
    (h : Phi7 L m Bm Q An Wg cq x E w) (hch : ∀ (i c : Nat), x.cbs[i]? = some c → w.heap[c]? = some (full1 (val (j0 + i))))
    (hg : ∀ R : World → World → Prop, ∃ n, Goes Try.prog true R DC0 (fun g _ => g = G (at7 a b c d m Bb Bm Q An qc Wg ((4 : Nat) : Int) s10 s11 s12 s30 s31 s32 s33 s34 s35 s36 s37 s38 s39 s40 s41 s42 [.inRegion (cops (c1 c14)) [], .code (c2 c14)]) (b₀.at a₀ (.inRegion ops₀ (i₀ :: rest₀) :: k₀) :: cs)) n g w) :
    MainW Stop (fun b => E b ∨ b ∈ x.cbs) g w := by
  obtain ⟨⟨⟨arr, hH, hsz, harr⟩, hnd, _, _, _⟩, hlen⟩ := h
  obtain ⟨cbs, Z, W⟩ := x
  match cbs, hlen with
  | [h0, h1, h2, h3], _ =>
    have f0 := hch 0 h0 rfl
    have f1 := hch 1 h1 rfl
    have f2 := hch 2 h2 rfl
    have f3 := hch 3 h3 rfl
    rw [hval 0 (by decide)] at f0
    rw [hval 1 (by decide)] at f1
    rw [hval 2 (by decide)] at f2
    rw [hval 3 (by decide)] at f3
    have out : ∀ c, c ∈ [h0, h1, h2, h3] → ¬ E c := fun c hc => hH.fx c (.inr (.inr hc))
    have hne : ∀ c, c ∈ [h0, h1, h2, h3] → ∀ p ∈ (An, Obj.cells arr 52) :: (Q, .cells cq 27) :: L, c ≠ p.1 := fun c hc p hp e => out c hc (e ▸ (hH.at_ p hp).1)
    simp only [List.nodup_cons, List.mem_cons, List.not_mem_nil, or_false, not_or] at hnd
    obtain ⟨⟨d1, d2, d3⟩, ⟨d4, d5⟩, d6, _⟩ := hnd
    have hF : Has Try.prog.globals.size NoF (fun b => E b ∨ b ∈ [h0, h1, h2, h3]) w ((h0, full1 (.int .i64 (qst a b c d m 0))) :: (h1, full1 (.int .i64 (qst a b c d m 1))) :: (h2, full1 (.int .i64 (qst a b c d m 2))) :: (h3, full1 (.int .i64 (qst a b c d m 3))) :: (An, .cells arr 52) :: (Q, .cells cq 27) :: L) := by
      refine ⟨fun p hp => ?_, List.pairwise_cons.2 ⟨fun p hp => ?_, List.pairwise_cons.2 ⟨fun p hp => ?_, List.pairwise_cons.2 ⟨fun p hp => ?_, List.pairwise_cons.2 ⟨hne h3 (by simp), hH.nd⟩⟩⟩⟩, fun b h => h.elim, fun b hb => ?_, hH.gl⟩
      · simp only [List.mem_cons] at hp
        rcases hp with rfl | rfl | rfl | rfl | hp
        · exact ⟨.inr (by simp), f0⟩
        · exact ⟨.inr (by simp), f1⟩
        · exact ⟨.inr (by simp), f2⟩
        · exact ⟨.inr (by simp), f3⟩
        · have := hH.at_ p (by simpa using hp)
          exact ⟨.inl this.1, this.2⟩
      · rcases List.mem_cons.1 hp with rfl | hp
        · exact d1
        rcases List.mem_cons.1 hp with rfl | hp
        · exact d2
        rcases List.mem_cons.1 hp with rfl | hp
        · exact d3
        exact hne h0 (by simp) p hp
      · rcases List.mem_cons.1 hp with rfl | hp
        · exact d4
        rcases List.mem_cons.1 hp with rfl | hp
        · exact d5
        exact hne h1 (by simp) p hp
      · rcases List.mem_cons.1 hp with rfl | hp
        · exact d6
        exact hne h2 (by simp) p hp
      · rcases hb with hb | hb
        · exact hH.bd b hb
        · simp only [List.mem_cons, List.not_mem_nil, or_false] at hb
          rcases hb with rfl | rfl | rfl | rfl
          · exact (Array.getElem?_eq_some_iff.1 f0).1
          · exact (Array.getElem?_eq_some_iff.1 f1).1
          · exact (Array.getElem?_eq_some_iff.1 f2).1
          · exact (Array.getElem?_eq_some_iff.1 f3).1
    obtain ⟨n, hgo⟩ := hg fun w w₁ => Rely (fun b => E b ∨ b ∈ [h0, h1, h2, h3]) w w₁ ∧ Tr w₁
    refine (way_of_goes _ _ _ (goes_keep (J := fun w => Has _ _ (fun b => E b ∨ b ∈ [h0, h1, h2, h3]) w _) (fun w w₁ hr hj => hj.moved hr.1) n g w hF hgo)).bind fun E' g' w' ⟨e, e2, hj⟩ => ?_
    subst e
    subst e2
    exact after7 stab0 hj (harr 0 h0 rfl) (harr 1 h1 rfl) (harr 2 h2 rfl) (harr 3 h3 rfl) fun S E' w' hS => k S E' w' hS.drop2

theorem e14 : ((cops (c1 c14))[0]?).bind (·.dst) = some 42 := by
  simp only [c14, c6, c5, cops, c1, c2, body7, Try.f7, Option.getD_some]
  rfl
theorem anch7 {val : Nat → Value} (hval : ∀ i, i < 4 → val (j0 + i) = .int .i64 (qst a b c d m i))
    (k : ∀ S E' w', Has Try.prog.globals.size NoF E' w' ((S, .cells #[.int .i64 (qst a b c d m 0), .int .i64 (qst a b c d m 1), .int .i64 (qst a b c d m 2), .int .i64 (qst a b c d m 3)] 3) :: L) →
      MainW Stop E' (G (b₀.at (a₀.put ((ops₀[i₀]?).bind (·.dst)) (.tuple #[.slice (some ⟨S, 0, none⟩) 4 4, .bool true])) (.inRegion ops₀ rest₀ :: k₀)) cs) w') {Wg : Nat} {x : Xs} {g : Goroutine}
    (h : AnchW7 L (b₀.at a₀ (.inRegion ops₀ (i₀ :: rest₀) :: k₀) :: cs) a b c d m Bb Bm Q An qc cq Wg x E g w) :
    MW Try.prog 51 Wg x (JW1 Try.prog 51 Wg j0 val (MainW Stop) (AnchW7 L (b₀.at a₀ (.inRegion ops₀ (i₀ :: rest₀) :: k₀) :: cs) a b c d m Bb Bm Q An qc cq Wg) x) E g w := by
  obtain ⟨s10, s11, s12, s30, s31, s32, s33, s34, s35, s36, s37, s38, s39, s40, s41, s42, h⟩ := h
  have h' := waitRoundS (L := lnk) (P := Try.prog) (j0 := j0) (val := val) (Anch := MainW Stop) (b₀ := base 7) (a₀ := ⟨#[bx a b c d, .int .i64 m, .pointer (some ⟨Bb, 0, none⟩), .pointer (some ⟨Bm, 0, none⟩), .slice none 0 0, .bool false, .slice (some ⟨Q, 0, none⟩) 4 qc, .bool true, .slice (some ⟨An, 0, none⟩) 4 4, .pointer (some ⟨Wg, 0, none⟩), s10, s11, s12, undef, undef, undef, .tuple #[.slice (some ⟨Q, 0, none⟩) 4 qc, .bool true], bx a b c d, .tuple #[.slice (some ⟨Q, 0, none⟩) 4 qc, .bool true], .slice (some ⟨Q, 0, none⟩) 4 qc, .bool true, .bool true, .bool false, undef, .slice (some ⟨Q, 0, none⟩) 4 qc, .int .i64 4, .slice (some ⟨An, 0, none⟩) 4 4, .slice (some ⟨Q, 0, none⟩) 4 qc, .int .i64 4, .int .i64 ((4 : Nat) : Int), s30, s31, s32, s33, s34, s35, s36, s37, s38, s39, s40, s41, s42, undef, undef, undef, undef, undef, undef, undef, undef, undef, undef, undef, undef, undef, undef, undef, undef], []⟩) (ops₀ := cops (c1 c14)) (i₀ := 0) (rest₀ := []) (k₀ := [.code (c2 c14)]) wgLib (fun w hp => let ⟨arr, hh, _⟩ := hp.1.has; hh.fx Wg (.inl rfl)) phi7_rely (fun w g hp hch hg => join7 hval k w g hp hch (by rw [e14] at hg; simp only [Act.put, List.setIfInBounds_toArray, List.set_cons_succ, List.set_cons_zero] at hg; exact hg)) g w h
  exact h'.mono fun E g w hj => jw1_mono (fun E g w h => ⟨s10, s11, s12, s30, s31, s32, s33, s34, s35, s36, s37, s38, s39, s40, s41, s42, h⟩) hj

set_option maxRecDepth 100000 in
set_option maxHeartbeats 8000000 in
/-- From the group's laying to the loop's head. -/
theorem head7 (hz : ∀ k j, k < 4 → j < 4 → cq[k * 4 + j]? = some (.int .i64 (qv j a b c d k))) {val : Nat → Value} (hval : ∀ i, i < 4 → val (j0 + i) = .int .i64 (qst a b c d m i)) {x : Xs} {Wg : Nat} (hL : LpS L m Bm Q An Wg cq x E w) (hx : x.cbs.length = 0) :
    Spawns Try.prog 51 Wg (j0 + 4) val (Into Try.prog 51 Wg (AnchW7 L cs a b c d m Bb Bm Q An qc cq Wg)) 4 x E (G (at5' a b c d m Bb Bm Q An qc Wg) cs) w := by
  rw [spawns_ns]
  show MW _ _ _ _ _ _ _ _
  unfold at5'
  simp only [c6, c5, cops, c1, c2, body7, Try.f7, Option.getD_some]
  refine Way.ctl rfl (fun _ => stepG_region_end) ?_
  refine Way.ctl rfl (fun _ => stepG_seq) ?_
  refine Way.ctl rfl (fun _ => stepG_seq) ?_
  refine Way.ctl rfl (fun _ => stepG_region) ?_
  simp only [List.size_toArray, List.length_cons, List.length_nil, Nat.reduceAdd, Nat.zero_add, List.range, List.range.loop]
  refine Way.op0 rfl rfl (by decide) (fun _ => by go_simp; rfl) (fun _ => by simp [go_sem]) ?_
  walk_nrm
  refine Way.op0 rfl rfl (by decide) (fun _ => by go_simp; rfl) (fun _ => by simp [go_sem]) ?_
  walk_nrm
  refine Way.op0 rfl rfl (by decide) (fun _ => by go_simp; rfl) (fun _ => by simp [go_sem]) ?_
  walk_nrm
  refine Way.ctl rfl (fun _ => stepG_region_end) ?_
  refine Way.ctl rfl (fun _ => stepG_block) ?_
  refine Way.ctl rfl (fun _ => stepG_loop) ?_
  have := spawn7 (cs := cs) (Bb := Bb) (qc := qc) hz hval 4 0 x E w undef undef undef undef undef undef undef undef undef undef undef undef undef undef undef undef (by decide) hL hx
  rw [spawns_ns] at this
  exact this

/-- ████ ████ -/
theorem split_run (hH : Has Try.prog.globals.size NoF E w ([(An, .cells #[.chan none, .chan none, .chan none, .chan none] 52), (Q, .cells cq 27), (Bm, .cells #[.int .i64 m] 3), (Bb, .cells #[.int .i64 a, .int .i64 b, .int .i64 c, .int .i64 d] 27)] ++ L))
    (hz : ∀ k j, k < 4 → j < 4 → cq[k * 4 + j]? = some (.int .i64 (qv j a b c d k))) (hj0 : j0 < 1000) (h0 : gs[0]? = some (G (at5 a b c d m Bb Bm Q An qc) (b₀.at a₀ (.inRegion ops₀ (i₀ :: rest₀) :: k₀) :: cs))) (hfr : Fra Try.prog Q0 j0 gs w t q E)
    (k : ∀ S E' w', Has Try.prog.globals.size NoF E' w' ((S, .cells #[.int .i64 (qst a b c d m 0), .int .i64 (qst a b c d m 1), .int .i64 (qst a b c d m 2), .int .i64 (qst a b c d m 3)] 3) :: L) →
      MainW Stop E' (G (b₀.at (a₀.put ((ops₀[i₀]?).bind (·.dst)) (.tuple #[.slice (some ⟨S, 0, none⟩) 4 4, .bool true])) (.inRegion ops₀ rest₀ :: k₀)) cs) w') :
    ∃ n gs' w' sl' t' q' E' a', runNT Try.prog n (crowd gs w sl) t = (.next (crowd gs' w' sl'), t') ∧ gs'[0]? = some a' ∧ Fra Try.prog (fun b => Q0 b ∨ b = w.heap.size) (j0 + 4) gs' w' t' q' E' ∧ w'.tape = w.tape ∧ w'.os = w.os ∧ w'.output = w.output ∧ ∀ d, Stop E' a' (w'.at d) := by
  have hBm := hH.at_ (Bm, _) (.tail _ (.tail _ (.head _)))
  obtain ⟨n1, n2⟩ := List.pairwise_cons.1 hH.nd
  obtain ⟨n2, n3⟩ := List.pairwise_cons.1 n2
  obtain ⟨n3, n4⟩ := List.pairwise_cons.1 n3
  obtain ⟨n4, n5⟩ := List.pairwise_cons.1 n4
  let val : Nat → Value := fun k => .int .i64 (qst a b c d m (k - j0))
  have hval : ∀ i, i < 4 → val (j0 + i) = .int .i64 (qst a b c d m i) := fun i _ => by simp [val]
  have hnew : ∀ dd, ∃ a', stepG Try.prog true (G (at5 a b c d m Bb Bm Q An qc) (b₀.at a₀ (.inRegion ops₀ (i₀ :: rest₀) :: k₀) :: cs)) (w.at dd) = .go a' ((w.at dd).alloc (wgBlock 51 0 0)) #[] ∧
      Spawns Try.prog 51 w.heap.size (j0 + 4) val (Into Try.prog 51 w.heap.size (AnchW7 L (b₀.at a₀ (.inRegion ops₀ (i₀ :: rest₀) :: k₀) :: cs) a b c d m Bb Bm Q An qc cq w.heap.size)) 4 ⟨[], fun b => b = Bm, (w.at dd).alloc (wgBlock 51 0 0)⟩ (fun b => E b ∧ b ≠ Bm) a' ((w.at dd).alloc (wgBlock 51 0 0)) := by
    intro dd
    have hsz : ((w.at dd).alloc (wgBlock 51 0 0)).heap.size = w.heap.size + 1 := World.size_alloc _ _
    have hold : ∀ b, b < w.heap.size → ((w.at dd).alloc (wgBlock 51 0 0)).heap[b]? = w.heap[b]? := fun b hb => Below.heap_alloc _ _ _ hb
    refine ⟨G (at5' a b c d m Bb Bm Q An qc w.heap.size) (b₀.at a₀ (.inRegion ops₀ (i₀ :: rest₀) :: k₀) :: cs), ?_, ?_⟩
    · refine (stepG_value rfl rfl (by decide) (op_alloc51 rfl (w.at dd)).1).trans ?_
      rw [show ∀ b a o w, (execOp a.eval o).events Try.prog w #[] = #[] → listed Try.prog b a o w = #[] from fun b a o w h => by unfold listed; rw [h]; exact seen_none _ _]
      · rfl
      · exact (op_alloc51 rfl (w.at dd)).2
    · refine head7 hz hval ⟨⟨#[.chan none, .chan none, .chan none, .chan none], ⟨fun p hp => ?_, ?_, ?_, fun b hb => ?_, ?_⟩, rfl, fun i c h => by simp at h⟩, by simp, fun c h => by simp at h, fun b hb => ?_, rfl, ?_⟩ rfl
      · rcases List.mem_cons.1 hp with rfl | hp
        · exact ⟨⟨hH.head.1, n1 _ (.tail _ (.head _))⟩, (hold _ (hH.lt (.head _))).trans hH.head.2⟩
        rcases List.mem_cons.1 hp with rfl | hp
        · exact ⟨⟨(hH.at_ _ (.tail _ (.head _))).1, n2 _ (.head _)⟩, (hold _ (hH.lt (.tail _ (.head _)))).trans (hH.at_ _ (.tail _ (.head _))).2⟩
        · have hm := List.Mem.tail (An, Obj.cells #[.chan none, .chan none, .chan none, .chan none] 52) (List.Mem.tail (Q, Obj.cells cq 27) (List.Mem.tail (Bm, Obj.cells #[.int .i64 m] 3) (List.Mem.tail (Bb, Obj.cells #[.int .i64 a, .int .i64 b, .int .i64 c, .int .i64 d] 27) hp)))
          exact ⟨⟨(hH.at_ _ hm).1, (n3 _ (.tail _ hp)).symm⟩, (hold _ (hH.lt hm)).trans (hH.at_ _ hm).2⟩
      · refine List.pairwise_cons.2 ⟨fun q hq => ?_, List.pairwise_cons.2 ⟨fun q hq => n2 q (.tail _ (.tail _ hq)), n5⟩⟩
        rcases List.mem_cons.1 hq with rfl | hq
        · exact n1 _ (.head _)
        · exact n1 q (.tail _ (.tail _ (.tail _ hq)))
      · rintro b (hb | hb | hb) ⟨hE, hne⟩
        · have := hH.bd b hE
          omega
        · exact hne hb
        · simp at hb
      · rw [hsz]; exact Nat.lt_succ_of_lt (hH.bd b hb.1)
      · rw [hsz]; exact Nat.le_succ_of_le hH.gl
      · rw [show b = Bm from hb]
        show Bm < ((w.at dd).alloc (wgBlock 51 0 0)).heap.size
        rw [hsz]; exact Nat.lt_succ_of_lt (hH.bd _ hBm.1)
      · exact (hold _ (hH.bd _ hBm.1)).trans hBm.2
  obtain ⟨n, gs', w', sl', t', q', E', a', r1, r2, r3, r4, r5, r6, r7⟩ := phase (P := Try.prog) (ty := 51) (j0 := j0) (n := 4) (val := val) (Anch := MainW Stop) (AnchW := fun Wg => AnchW7 L (b₀.at a₀ (.inRegion ops₀ (i₀ :: rest₀) :: k₀) :: cs) a b c d m Bb Bm Q An qc cq Wg)
    (E := fun b => E b ∧ b ≠ Bm) (Z := fun b => b = Bm) (sl := sl) h0 (hfr.sub fun b hb => hb.1) rfl (by decide) (by omega) hnew (fun b hb => by
      rw [show b = Bm from hb]
      exact ⟨(hfr.eB _ hBm.1).1, (hfr.eB _ hBm.1).2, fun h => h.2 rfl⟩) (fun x E g w' h => anchW7_run h) (fun x E g w' h => anch7 hval k h)
  obtain ⟨n', gs₂, w₂, sl₂, t₂, q₂, E₂, a₂, s1, s2, s3, s4, s5, s6, s7, s8, s9⟩ := walk_way (fun _ _ h => h) (N := 0) (fun b h => h.elim) (Nat.zero_le _) r2 r3 trivial r4 sl'
  exact ⟨n + n', gs₂, w₂, sl₂, t₂, q₂, E₂, a₂, (by rw [runNT_add, r1]; exact s1), s2, s3, s5.trans r5, s6.trans r6, s7.trans r7, s9⟩
end
end Go.Proofs.Ytjbpaejjpamcpaa.Sim
