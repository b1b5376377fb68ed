import Derived.Test.YtjbpaejjpamcpaaMCa
/- Two runs of the same code under a renaming of blocks: numbers made of addresses, comparisons, binary operations. -/
namespace Go.Proofs.Ytjbpaejjpamcpaa.Sim
set_option linter.unusedSimpArgs false
set_option linter.unusedVariables false
open Go
variable {S : FuncId → Prop} {K : Code → Prop} {P : Program} {α β γ δ : Type} {A : Ren → γ → δ → Prop} {r : Ren}

theorem sr_viewAt {x y : Nat} (hx : r x = some y) {f : Option (Addr × TypeId) → Sem γ} {f' : Option (Addr × TypeId) → Sem δ} (h : SemR P S K A r (f none) (f' none)) : SemR P S K A r (viewAt x >>= f) (viewAt y >>= f') := by
  unfold viewAt
  simp only [bind_assoc]
  refine sr_shape hx fun s => ?_
  cases s with
  | some s => exact h
  | none =>
    refine sr_getObj hx fun o o' ho => ?_
    cases ho <;> exact h
/-- What a number made of an address bears. -/
def NumR (r : Ren) (n n' : Option (Addr × Bool)) : Prop := match n, n' with
  | none, none => True
  | some (a, l), some (a', l') => AdR r a a' ∧ l = l'
  | _, _ => False
theorem sr_numberAt {x y : Nat} (hx : r x = some y) {f : Option (Addr × Bool) → Sem γ} {f' : Option (Addr × Bool) → Sem δ} (h : ∀ n n', NumR r n n' → SemR P S K A r (f n) (f' n')) : SemR P S K A r (numberAt x >>= f) (numberAt y >>= f') := by
  unfold numberAt
  simp only [bind_assoc]
  refine sr_shape hx fun s => ?_
  cases s with
  | some s => exact h none none trivial
  | none =>
    refine sr_getObj hx fun o o' ho => ?_
    cases ho with
    | number ha => exact h (some _) (some _) ⟨ha, rfl⟩
    | cells _ => exact h none none trivial
    | loop _ => exact h none none trivial
    | gone => exact h none none trivial
    | nil => exact h none none trivial
theorem sr_behind {a a' : Addr} (ha : AdR r a a') {f : Addr × Bool → Sem γ} {f' : Addr × Bool → Sem δ} (h : ∀ a a' l, AdR r a a' → SemR P S K A r (f (a, l)) (f' (a', l))) : SemR P S K A r (behindNumber a >>= f) (behindNumber a' >>= f') := by
  unfold behindNumber
  simp only [bind_assoc, pure_bind]
  have hb : r a.block = some a'.block := by cases ha with | mk h => exact h
  refine sr_numberAt hb fun n n' hn => ?_
  match n, n', hn with
  | none, none, _ => exact h _ _ _ ha
  | some (b, l), some (b', l'), ⟨h1, h2⟩ => subst h2; exact h _ _ _ h1
/-- Moving an address by a number of bytes. -/
theorem add_nil {t : TypeId} {k : IntKind} {n : Int} : ∃ u, UOk u ∧ Builtin.unsafeAdd_ #[] t #[.pointer none, .int k n] = unsupported u := by
  have e : Builtin.unsafeAdd_ #[] t #[.pointer none, .int k n] = (if n = 0 then unsupported (.unsafePointer "Add: from nil") else if n < 0 then unsupported (.unsafePointer "Add: a move by a count below zero") else unsupported (.unsafePointer "Add")) := rfl
  rw [e]
  by_cases h : n = 0
  · rw [if_pos h]; refine ⟨_, ?_, rfl⟩; trivial
  · by_cases h2 : n < 0
    · rw [if_neg h, if_pos h2]; refine ⟨_, ?_, rfl⟩; trivial
    · rw [if_neg h, if_neg h2]; refine ⟨_, ?_, rfl⟩; trivial
/-- Where the move leads. -/
def goTo (a : Addr) (n : Int) (s : TypeId × Nat) (p : Program) : Sem Value := (cellAtBytes p p.depth s.1 (s.2 / p.cellsOf s.1) a.off n).elim (unsupported (.unsafePointer "Add")) fun off => pure (.pointer (some ⟨a.block, off, a.spot⟩))
theorem add_some {t : TypeId} {a : Addr} {k : IntKind} {n : Int} : Builtin.unsafeAdd_ #[] t #[.pointer (some a), .int k n] =
    (if n = 0 then viewAt a.block >>= fun v => if v.isSome = true then unsupported (.unsafePointer "Add: at a place where no cell lies") else pure (.pointer (some a))
     else if n < 0 then unsupported (.unsafePointer "Add: a move by a count below zero")
     else shape a.block >>= fun s => s.elim (unsupported (.unsafePointer "Add")) fun s => program >>= goTo a n s) := by
  by_cases h : n = 0
  · rw [if_pos h]
    subst h
    rfl
  · rw [if_neg h]
    have e : Builtin.unsafeAdd_ #[] t #[.pointer (some a), .int k n] = (if n = 0 then viewAt a.block >>= fun v => if v.isSome = true then unsupported (.unsafePointer "Add: at a place where no cell lies") else pure (.pointer (some a)) else
       if n < 0 then unsupported (.unsafePointer "Add: a move by a count below zero") else shape a.block >>= _) := rfl
    rw [e, if_neg h]
    by_cases h2 : n < 0
    · rw [if_pos h2, if_pos h2]
    · rw [if_neg h2, if_neg h2]
      congr 1; funext s
      cases s with
      | none => rfl
      | some s =>
        show (program >>= _) = (program >>= _)
        congr 1; funext p
        unfold goTo
        show (match cellAtBytes p p.depth s.1 (s.2 / p.cellsOf s.1) a.off n with | some off => _ | none => _) = _
        cases cellAtBytes p p.depth s.1 (s.2 / p.cellsOf s.1) a.off n <;> rfl
theorem sr_unsafeAdd {t : TypeId} {x x' : Option Addr} (hx : VR S r (.pointer x) (.pointer x')) {y y' : Value} (hy : VR S r y y') {f : Value → Sem γ} {f' : Value → Sem δ}
    (h : ∀ p p', VR S r (.pointer p) (.pointer p') → SemR P S K A r (f (.pointer p)) (f' (.pointer p'))) : SemR P S K A r (Builtin.unsafeAdd_ #[] t #[.pointer x, y] >>= f) (Builtin.unsafeAdd_ #[] t #[.pointer x', y'] >>= f') := by
  cases hy with
  | int k n =>
    cases hx with
    | pnil => obtain ⟨u, hu, e⟩ := add_nil (t := t) (k := k) (n := n); rw [e]; exact sr_uns' hu
    | @ptr x b o s hr =>
      rw [add_some, add_some]
      by_cases hn : n = 0
      · rw [if_pos hn, if_pos hn]
        simp only [bind_assoc]
        refine sr_viewAt hr ?_
        exact h _ _ (.ptr hr)
      · rw [if_neg hn, if_neg hn]
        by_cases h2 : n < 0
        · rw [if_pos h2]; exact sr_uns' trivial
        · rw [if_neg h2, if_neg h2]
          simp only [bind_assoc]
          refine sr_shape hr fun s => ?_
          cases s with
          | none => exact .dead trivial
          | some s =>
            simp only [Option.elim_some, bind_assoc]
            refine sr_program ?_
            unfold goTo
            dsimp only
            cases cellAtBytes P P.depth s.fst (s.snd / P.cellsOf s.fst) o n with
            | none => exact .dead trivial
            | some off => exact h _ _ (.ptr hr)
  | _ => exact .dead trivial
theorem sr_moved {t : TypeId} {k : IntKind} (ht : P.underlying t = some (.int k)) {x x' : Option Addr} (hx : VR S r (.pointer x) (.pointer x')) {y y' : Value} (hy : VR S r y y') :
    SemR P S K (fun r v v' => VR S r v v') r (movedNumber t (.pointer x) y) (movedNumber t (.pointer x') y') := by
  unfold movedNumber
  refine sr_und fun d hd => ?_
  rw [ht] at hd
  simp only [Option.some.injEq] at hd
  subst hd
  simp only [Bool.false_eq_true, if_false, pure_bind]
  cases hx with
  | pnil =>
    have := sr_unsafeAdd (P := P) (K := K) (A := fun r v v' => VR S r v v') (t := t) (f := pure) (f' := pure) .pnil hy fun v v' hv => .pure hv
    simp only [bind_pure] at this
    exact this
  | @ptr x b o s hr =>
    refine sr_behind (.mk hr) fun a a' l ha => ?_
    refine sr_unsafeAdd (.ptrOf ha) hy fun v v' hv => ?_
    cases hv with
    | ptr hb => exact .new (.number (.mk hb)) fun i c hi _ => .pure (.ptr (Ren.upd_self _ _ _))
    | pnil => exact .pure .pnil
theorem sr_byteOf {a a' : Addr} (ha : AdR r a a') {f : Nat → Sem γ} {f' : Nat → Sem δ} (h : ∀ n, SemR P S K A r (f n) (f' n)) : SemR P S K A r (byteOf a >>= f) (byteOf a' >>= f') := by
  unfold byteOf
  cases ha with
  | @mk x b o s hr =>
    cases s with
    | some s => exact h s
    | none =>
      simp only [bind_assoc, pure_bind]
      refine sr_program ?_
      unfold noView
      simp only [bind_assoc]
      refine sr_viewAt hr ?_
      simp only [Option.isSome_none, Bool.false_eq_true, if_false, pure_bind]
      refine sr_shape hr fun s => ?_
      cases s with
      | none => exact .dead trivial
      | some s =>
        obtain ⟨e, c⟩ := s
        dsimp only
        by_cases h0 : P.cellsOf e = 0
        · simp only [h0, if_true, pure_bind]; exact h 0
        · simp only [h0, if_false]
          cases byteOfCell P P.depth e (o % P.cellsOf e) with
          | none => exact .dead trivial
          | some c => exact h _
theorem sr_addrMod {k : IntKind} {a a' : Addr} (ha : AdR r a a') {n : Int} : SemR P S K (fun r v v' => VR S r v v') r (Op.addrMod k a n) (Op.addrMod k a' n) := by
  have hb : r a.block = some a'.block := by cases ha with | mk h => exact h
  unfold Op.addrMod
  refine sr_shape hb fun s => ?_
  cases s with
  | none => exact .dead trivial
  | some s =>
    simp only [bind_assoc]
    refine sr_info fun d _ => ?_
    split
    · exact .dead trivial
    · exact sr_byteOf ha fun m => .pure (.int _ _)

/-- Binary operations on whole numbers. -/
def arB : BinOp → Bool
  | .add | .sub | .mul | .quo | .rem | .shl | .shr | .lss | .leq | .gtr | .geq | .eql | .neq | .xor => true
  | _ => false
def eqB : BinOp → Bool
  | .eql | .neq => true
  | _ => false
def okBin (P : Program) (op : BinOp) (t : TypeId) : Bool :=
  match P.underlying t with
  | some (.int _) => arB op
  | some .bool => eqB op
  | _ => false

theorem AdR.blk {a a' : Addr} (h : AdR r a a') : r a.block = some a'.block := by cases h with | mk h => exact h

theorem Good.same (hG : Good P.globals.size r) {a b a' b' : Addr} (ha : AdR r a a') (hb : AdR r b b') : (a'.block == b'.block) = (a.block == b.block) ∧ decide (a'.block < P.globals.size) = decide (a.block < P.globals.size) := by
  refine ⟨?_, ?_⟩
  · by_cases h : a.block = b.block
    · have h2 := hb.blk
      rw [← h, ha.blk] at h2
      simp only [Option.some.injEq] at h2
      rw [h2, h]; simp
    · have h2 : ¬ a'.block = b'.block := fun e => h (hG.inj _ _ _ (e ▸ ha.blk) hb.blk)
      rw [beq_eq_false_iff_ne.2 h, beq_eq_false_iff_ne.2 h2]
  · exact decide_eq_decide.2 (hG.side _ _ ha.blk).symm
theorem sr_byte2 {a a' : Addr} (ha : AdR r a a') {f : Nat → Sem γ} {f' : Nat → Sem δ} (h : ∀ n, SemR P S K A r (f n) (f' n)) : SemR P S K A r (byteOf a >>= f) (byteOf a' >>= f') := sr_byteOf ha h
theorem sr_two (hG : Good P.globals.size r) {a b a' b' : Addr} (ha : AdR r a a') (hb : AdR r b b') {f : Nat × Nat → Sem γ} {f' : Nat × Nat → Sem δ} (h : ∀ x, SemR P S K A r (f x) (f' x)) : SemR P S K A r (Op.twoPlaces a b >>= f) (Op.twoPlaces a' b' >>= f') := by
  obtain ⟨e1, e2⟩ := hG.same ha hb
  have hc : (a'.block != b'.block || decide (a'.block ≥ P.globals.size)) = (a.block != b.block || decide (a.block ≥ P.globals.size)) := by
    have e3 : decide (a'.block ≥ P.globals.size) = decide (a.block ≥ P.globals.size) := decide_eq_decide.2 (by have := hG.side _ _ ha.blk; omega)
    rw [e3, bne, bne, e1]
  unfold Op.twoPlaces
  simp only [bind_assoc]
  refine sr_program ?_
  rw [hc]
  by_cases hcc : (a.block != b.block || decide (a.block ≥ P.globals.size)) = true
  · rw [if_pos hcc]; exact .dead trivial
  · rw [if_neg hcc, if_neg hcc]
    simp only [bind_assoc, pure_bind]
    exact sr_byte2 ha fun x => sr_byte2 hb fun y => h _
/-- Equality of whole numbers and truth values. -/
theorem sr_equal {t : TypeId} (ht : (∃ k, P.underlying t = some (.int k)) ∨ P.underlying t = some .bool) (hG : Good P.globals.size r) {x x' y y' : Value} (hx : VR S r x x') (hy : VR S r y y')
    (hn : ∀ k n k' n', x = .int k n → y = .int k' n' → False) :
    SemR P S K (fun _ b b' => b = b') r (Op.equal t x y) (Op.equal t x' y') := by
  unfold Op.equal
  rw [show Op.maxDepth = 9999 + 1 from rfl]
  generalize 9999 = d
  unfold Op.equalIn
  refine sr_und fun u hu => ?_
  rcases ht with ⟨k, ht⟩ | ht
  · rw [ht] at hu
    simp only [Option.some.injEq] at hu
    subst hu
    cases hx with
    | int k n =>
      cases hy with
      | int k' n' => exact (hn _ _ _ _ rfl rfl).elim
      | ptr h =>
        cases n with
        | ofNat m =>
          cases m with
          | zero => exact .pure rfl
          | succ m => exact .dead trivial
        | negSucc m => exact .dead trivial
      | _ => exact .dead trivial
    | ptr h =>
      cases hy with
      | int k' n' =>
        cases n' with
        | ofNat m =>
          cases m with
          | zero => exact .pure rfl
          | succ m => exact .dead trivial
        | negSucc m => exact .dead trivial
      | ptr h' =>
        refine sr_behind (.mk h) fun a a' l ha => ?_
        refine sr_behind (.mk h') fun b b' l' hb => ?_
        obtain ⟨c1, c2⟩ := hG.same ha hb
        have hc : (a'.block == b'.block && decide (a'.block < P.globals.size)) = (a.block == b.block && decide (a.block < P.globals.size)) := by rw [c1, c2]
        refine sr_program ?_
        dsimp only
        rw [hc]
        by_cases hcc : (a.block == b.block && decide (a.block < P.globals.size)) = true
        · rw [if_pos hcc, if_pos hcc]
          exact sr_byte2 ha fun x => sr_byte2 hb fun y => .pure rfl
        rw [if_neg hcc, if_neg hcc]
        refine sr_info fun u hu => ?_
        have hfin : SemR P S K (fun _ b b' => b = b') r (if (a == b) = true then pure true else unsupported .addressObserved : Sem Bool) (if (a' == b') = true then pure true else unsupported .addressObserved : Sem Bool) := by
          by_cases hab : (a == b) = true
          · have hab' : (a' == b') = true := by
              have e : a = b := by simpa using hab
              subst e
              cases ha with
              | mk h1 => cases hb with
                | mk h2 => rw [h1] at h2; simp only [Option.some.injEq] at h2; simp [h2]
            rw [if_pos hab, if_pos hab']; exact .pure rfl
          · rw [if_neg hab]; exact .dead trivial
        split
        · exact hfin
        · exact .dead trivial
      | _ => exact .dead trivial
    | _ =>
      cases hy with
      | _ => exact .dead trivial
  · rw [ht] at hu
    simp only [Option.some.injEq] at hu
    subst hu
    cases hx with
    | bool a =>
      cases hy with
      | bool b => exact .pure rfl
      | _ => exact .dead trivial
    | _ =>
      cases hy with
      | _ => exact .dead trivial

/-- What is compared is no whole number and no truth value: the run alone ends. -/
theorem sr_equal_dead {t : TypeId} (ht : (∃ k, P.underlying t = some (.int k)) ∨ P.underlying t = some .bool) {x y : Value} (h : JJ (x) ∨ JJ (y)) {f : Bool → Sem γ} {s' : Sem δ} : SemR P S K A r (Op.equal t x y >>= f) s' := by
  unfold Op.equal
  rw [show Op.maxDepth = 9999 + 1 from rfl]
  generalize 9999 = d
  unfold Op.equalIn
  simp only [bind_assoc]
  rw [und_eq]
  refine .progL ?_
  rcases ht with ⟨k, ht⟩ | ht
  · simp only [ht, Option.elim_some]
    rcases h with ⟨z, rfl⟩ | ⟨z, rfl⟩
    · cases y <;> first | exact .dead trivial | (rename_i p; cases p <;> exact .dead trivial) | (rename_i p q; cases q <;> first | exact .dead trivial | (rename_i p; cases p <;> exact .dead trivial))
    · cases x <;> first | exact .dead trivial | (rename_i p; cases p <;> exact .dead trivial) | (rename_i p; cases p <;> first | exact .dead trivial | (rename_i p; cases p <;> exact .dead trivial)) | (rename_i p q; cases q <;> first | exact .dead trivial | (rename_i p; cases p <;> exact .dead trivial))
  · simp only [ht, Option.elim_some]
    rcases h with ⟨z, rfl⟩ | ⟨z, rfl⟩
    · cases y <;> first | exact .dead trivial | (rename_i p; cases p <;> exact .dead trivial) | (rename_i p q; cases q <;> first | exact .dead trivial | (rename_i p; cases p <;> exact .dead trivial))
    · cases x <;> first | exact .dead trivial | (rename_i p; cases p <;> exact .dead trivial) | (rename_i p; cases p <;> first | exact .dead trivial | (rename_i p; cases p <;> exact .dead trivial)) | (rename_i p q; cases q <;> first | exact .dead trivial | (rename_i p; cases p <;> exact .dead trivial))

theorem sr_intint {op : BinOp} {t : TypeId} {k k' : IntKind} {a b : Int} : SemR P S K (fun r v v' => VR S r v v') r (binOp op t (.int k a) (.int k' b)) (binOp op t (.int k a) (.int k' b)) := by
  have hsh : ∀ op, SemR P S K (fun r v v' => VR S r v v') r (Op.shift op k a k' b) (Op.shift op k a k' b) := fun op => by
    unfold Op.shift
    split
    · exact sr_rtp0 rfl
    · cases op <;> first | exact .pure (.int _ _) | exact .dead trivial
  have hdiv : ∀ op, SemR P S K (fun r v v' => VR S r v v') r (Op.intDiv op k a b) (Op.intDiv op k a b) := fun op => by
    unfold Op.intDiv
    split
    · exact sr_rtp0 rfl
    · cases op <;> first | exact .pure (.int _ _) | exact .dead trivial
  have har : ∀ op, SemR P S K (fun r v v' => VR S r v v') r (Op.intArith op k a b) (Op.intArith op k a b) := fun op => by
    cases op <;> first | exact .pure (.int _ _) | exact .dead trivial
  have hbt : ∀ op, SemR P S K (fun r v v' => VR S r v v') r (Op.intBits op k a b) (Op.intBits op k a b) := fun op => by
    cases op <;> first | exact .pure (.int _ _) | exact .dead trivial
  have hcm : ∀ op, SemR P S K (fun r v v' => VR S r v v') r (Op.intCmp op a b) (Op.intCmp op a b) := fun op => by
    cases op <;> first | exact .pure (.bool _) | exact .dead trivial
  have hk : ∀ s : Sem Value, SemR P S K (fun r v v' => VR S r v v') r s s → SemR P S K (fun r v v' => VR S r v v') r (if k ≠ k' then stuck "BinOp: operands of different kinds" else s) (if k ≠ k' then stuck "BinOp: operands of different kinds" else s) := fun s hs => by
    split
    · exact .dead trivial
    · exact hs
  cases op <;> first | exact hsh .shl | exact hsh .shr | exact hk _ (har _) | exact hk _ (hdiv _) | exact hk _ (hbt _) | exact hk _ (hcm _)

theorem sr_binOp {op : BinOp} {t : TypeId} (hop : okBin P op t = true) (hG : Good P.globals.size r) {x x' y y' : Value} (hx : VR S r x x') (hy : VR S r y y') :
    SemR P S K (fun r v v' => VR S r v v') r (binOp op t x y) (binOp op t x' y') := by
  have ht : (∃ k, P.underlying t = some (.int k)) ∨ P.underlying t = some .bool := by
    unfold okBin at hop
    split at hop
    · exact .inl ⟨_, by assumption⟩
    · exact .inr (by assumption)
    · cases hop
  by_cases hii : ∃ k n k' n', x = .int k n ∧ y = .int k' n'
  · obtain ⟨k, n, k', n', rfl, rfl⟩ := hii
    cases hx; cases hy
    exact sr_intint
  have heq := sr_equal (K := K) ht hG hx hy (fun k n k' n' h1 h2 => hii ⟨k, n, k', n', h1, h2⟩)
  have h1 : SemR P S K (fun r v v' => VR S r v v') r (do pure (.bool (← Op.equal t x y))) (do pure (.bool (← Op.equal t x' y'))) := heq.bind fun _ _ _ _ h => by subst h; exact .pure (.bool _)
  have h2 : SemR P S K (fun r v v' => VR S r v v') r (do pure (.bool (!(← Op.equal t x y)))) (do pure (.bool (!(← Op.equal t x' y')))) := heq.bind fun _ _ _ _ h => by subst h; exact .pure (.bool _)
  clear heq
  have hj1 : (JJ (x) ∨ JJ (y)) → ∀ s' : Sem Value, SemR P S K (fun r v v' => VR S r v v') r (do pure (.bool (← Op.equal t x y))) s' := fun h s' => sr_equal_dead ht h
  have hj2 : (JJ (x) ∨ JJ (y)) → ∀ s' : Sem Value, SemR P S K (fun r v v' => VR S r v v') r (do pure (.bool (!(← Op.equal t x y)))) s' := fun h s' => sr_equal_dead ht h
  have hmv : ∀ {p p' : Option Addr} {z z' : Value}, VR S r (.pointer p) (.pointer p') → VR S r z z' → (op = .add ∨ op = .sub) → SemR P S K (fun r v v' => VR S r v v') r (movedNumber t (.pointer p) z) (movedNumber t (.pointer p') z') := fun hp hz hop' => by
    rcases ht with ⟨k, ht⟩ | ht
    · exact sr_moved ht hp hz
    · exfalso; rcases hop' with rfl | rfl <;> simp [okBin, ht, arB, eqB] at hop
  have hno : op ≠ .and ∧ op ≠ .or ∧ op ≠ .andNot := by
    refine ⟨?_, ?_, ?_⟩ <;> (rintro rfl; rcases ht with ⟨k, ht⟩ | ht <;> simp [okBin, ht, arB, eqB] at hop)
  have hdi : ∀ {p p' : Option Addr} {z z' : Value}, VR S r (.pointer p) (.pointer p') → VR S r z z' → op = .add → SemR P S K (fun r v v' => VR S r v v') r
      (do if (← underlying t) matches .unsafePointer then movedPointer t (.pointer p) z else movedNumber t (.pointer p) z) (do if (← underlying t) matches .unsafePointer then movedPointer t (.pointer p') z' else movedNumber t (.pointer p') z') := fun hp hz hop' => by
    rcases ht with ⟨k, ht⟩ | ht
    · refine sr_und fun d hd => ?_
      rw [ht] at hd
      simp only [Option.some.injEq] at hd
      subst hd
      exact sr_moved ht hp hz
    · exfalso; subst hop'; simp [okBin, ht, arB, eqB] at hop
  have hptr : ∀ {p p' : Option Addr}, VR S r (.pointer p) (.pointer p') → (x = .pointer p → x' = .pointer p' → SemR P S K (fun r v v' => VR S r v v') r (binOp op t x y) (binOp op t x' y')) := by
    rintro p p' hp rfl rfl
    cases hy with
    | int k n =>
      cases op <;> first
        | exact hdi hp (.int k n) rfl
        | exact hmv hp (.int k (-n)) (.inr rfl)
        | exact h1
        | exact h2
        | exact absurd rfl hno.1
        | (cases hp with
           | pnil => exact .dead trivial
           | ptr h => exact .dead trivial)
        | (cases hp with
           | pnil => exact .dead trivial
           | ptr h => exact sr_behind (.mk h) fun a a' l ha => sr_addrMod ha)
    | ptr h =>
      cases op <;> first
        | exact h1
        | exact h2
        | exact absurd rfl hno.1
        | (cases hp with
           | pnil => exact .dead trivial
           | ptr h' => exact .dead trivial)
        | (cases hp with
           | pnil => exact .dead trivial
           | ptr h' => exact sr_behind (.mk h') fun a a' l ha => sr_behind (.mk h) fun b b' l' hb => sr_two hG ha hb fun x => .pure (.int _ _))
        | (cases hp with
           | pnil => exact .dead trivial
           | ptr h' => exact sr_behind (.mk h') fun a a' l ha => sr_behind (.mk h) fun b b' l' hb => sr_two hG ha hb fun x => .pure (.bool _))
    | pnil =>
      cases op <;> first
        | exact h1
        | exact h2
        | exact absurd rfl hno.1
        | (cases hp with
           | pnil => exact .dead trivial
           | ptr h' => exact .dead trivial)
    | junk _ =>
      cases op <;> first
        | exact hj1 (.inr ⟨_, rfl⟩) _
        | exact hj2 (.inr ⟨_, rfl⟩) _
        | (cases hp with
           | pnil => exact .dead trivial
           | ptr h' => exact .dead trivial)
    | _ =>
      cases op <;> first
        | exact h1
        | exact h2
        | (cases hp with
           | pnil => exact .dead trivial
           | ptr h' => exact .dead trivial)
  cases hx with
  | int k n =>
    cases hy with
    | int k' n' => exact (hii ⟨_, _, _, _, rfl, rfl⟩).elim
    | ptr h => cases op <;> first | exact hmv (.ptr h) (.int k n) (.inl rfl) | exact h1 | exact h2 | exact absurd rfl hno.1 | exact .dead trivial
    | pnil => cases op <;> first | exact hmv .pnil (.int k n) (.inl rfl) | exact h1 | exact h2 | exact absurd rfl hno.1 | exact .dead trivial
    | junk _ => cases op <;> first | exact hj1 (.inr ⟨_, rfl⟩) _ | exact hj2 (.inr ⟨_, rfl⟩) _ | exact .dead trivial
    | _ => cases op <;> first | exact h1 | exact h2 | exact .dead trivial
  | ptr h => exact hptr (.ptr h) rfl rfl
  | pnil => exact hptr .pnil rfl rfl
  | junk _ => cases hy <;> cases op <;> first | exact hj1 (.inl ⟨_, rfl⟩) _ | exact hj2 (.inl ⟨_, rfl⟩) _ | exact .dead trivial
  | _ =>
    cases hy with
    | _ => cases op <;> first | exact h1 | exact h2 | exact .dead trivial
/-- An operand is no number, truth value or pointer: the run alone ends. -/
theorem sr_binOp_dead {op : BinOp} {t : TypeId} (hop : okBin P op t = true) {x x' y y' : Value} (hx : VR S r x x') (hy : VR S r y y') (h : JJ (x) ∨ JJ (y)) {g : Value → Sem γ} {s' : Sem δ} :
    SemR P S K A r (binOp op t x y >>= g) s' := by
  have ht : (∃ k, P.underlying t = some (.int k)) ∨ P.underlying t = some .bool := by
    unfold okBin at hop
    split at hop
    · exact .inl ⟨_, by assumption⟩
    · exact .inr (by assumption)
    · cases hop
  have hj1 : SemR P S K A r ((do pure (.bool (← Op.equal t x y))) >>= g) s' := by
    simp only [bind_assoc]; exact sr_equal_dead ht h
  have hj2 : SemR P S K A r ((do pure (.bool (!(← Op.equal t x y)))) >>= g) s' := by
    simp only [bind_assoc]; exact sr_equal_dead ht h
  rcases h with ⟨z, rfl⟩ | ⟨z, rfl⟩
  · cases hy <;> cases op <;> first | exact hj1 | exact hj2 | exact .dead trivial
  · cases hx <;> cases op <;> first | exact hj1 | exact hj2 | exact .dead trivial
end Go.Proofs.Ytjbpaejjpamcpaa.Sim
/- Two runs of the same code under a renaming of blocks: the operations that the cells' states are reckoned with. -/
namespace Go.Proofs.Ytjbpaejjpamcpaa.Sim
set_option linter.unusedSimpArgs false
set_option linter.unusedVariables false
open Go
variable {S : FuncId → Prop} {K : Code → Prop} {P : Program} {α β γ δ : Type} {A : Ren → γ → δ → Prop} {r : Ren}

abbrev VRq (S : FuncId → Prop) : Ren → Value → Value → Prop := fun r v v' => VR S r v v'

theorem sr_pureV {v v' : Value} (h : VR S r v v') : SemR P S K (VRq S) r (pure v) (pure v') := .pure h

/-- A program that asks types alone. -/
def Query (P : Program) (s : Sem α) : Prop := ∀ {γ δ : Type} {S : FuncId → Prop} {K : Code → Prop} {A : Ren → γ → δ → Prop} {r : Ren} {k : α → Sem γ} {k' : α → Sem δ},
  (∀ a, SemR P S K A r (k a) (k' a)) → SemR P S K A r (s >>= k) (s >>= k')
theorem query_pure (a : α) : Query P (pure a : Sem α) := fun h => h a
theorem query_bind {s : Sem α} {f : α → Sem β} (hs : Query P s) (hf : ∀ a, Query P (f a)) : Query P (s >>= f) := fun h => by
  rw [bind_assoc, bind_assoc]; exact hs fun a => hf a h
theorem query_size (t : TypeId) : Query P (sizeOf t) := fun h => sr_size fun n _ => h n
theorem query_mapM {f : α → Sem β} (hf : ∀ a, Query P (f a)) (c : Array α) : Query P (c.mapM f) := by
  have key : ∀ l : List α, Query P (l.mapM f) := fun l => by
    induction l with
    | nil => exact query_pure []
    | cons x l ih =>
      rw [List.mapM_cons]
      exact query_bind (hf x) fun a => query_bind ih fun b => query_pure _
  rw [Array.mapM_eq_mapM_toList]
  intro γ δ S K A r k k' h
  simp only [map_eq_pure_bind, bind_assoc, pure_bind]
  exact key c.toList fun l => h _

theorem flat_cells {v : Value} (h : flatB v = true) : ∀ i : Nat, VR S r (v.cells[i]!) (v.cells[i]!) := by
  intro i
  have hc : AR S r v.cells v.cells := (flat_refl h).cells
  cases e : v.cells[i]? with
  | none =>
    have : v.cells[i]! = default := by rw [getElem!_def, e]
    rw [this]
    exact .bool _
  | some x =>
    have : v.cells[i]! = x := by rw [getElem!_def, e]
    rw [this]
    obtain ⟨x', e', hx⟩ := hc.get e
    rw [e] at e'; simp only [Option.some.injEq] at e'; subst e'; exact hx
theorem range_cells {v : Value} (h : flatB v = true) (n : Nat) (g : Nat → Nat) : AR S r ((Array.range n).map fun i => v.cells[g i]!) ((Array.range n).map fun i => v.cells[g i]!) :=
  ⟨rfl, fun i h1 _ => by simp only [Array.getElem_map]; exact flat_cells h _⟩

/-- Parts laid over a row. -/
theorem fill_rel {place : Nat → Option (Nat × Nat)} {l l' : List (Nat × Value)} (hl : L2 (fun x y => x.1 = y.1 ∧ VR S r x.2 y.2) l l') :
    ∀ {c c' : Array Value}, AR S r c c' → (Instr.fill place c l = none) ∨ ∃ d d', Instr.fill place c l = some d ∧ Instr.fill place c' l' = some d' ∧ AR S r d d' := by
  induction hl with
  | nil => exact fun hc => .inr ⟨_, _, rfl, rfl, hc⟩
  | @cons x y l l' hxy _ ih =>
    intro c c' hc
    obtain ⟨i, v⟩ := x
    obtain ⟨j, v'⟩ := y
    obtain ⟨rfl, hv⟩ := hxy
    simp only at hv
    unfold Instr.fill
    cases place i with
    | none => exact .inl rfl
    | some p =>
      obtain ⟨o, z⟩ := p
      dsimp only
      have hs := hv.cells.size
      have hcs := hc.size
      by_cases hg : (v.cells.size ≠ z || decide (o + v.cells.size > c.size)) = true
      · rw [if_pos hg]; exact .inl rfl
      · rw [if_neg hg, if_neg (by rw [← hs, ← hcs]; exact hg)]
        refine ih ?_
        have key : ∀ (u u' : Array Value) (n : Nat), AR S r u u' → AR S r (List.foldl (fun cs (x : Value × Nat) => cs.setIfInBounds (o + x.2) x.1) c (u.toList.zipIdx n)) (List.foldl (fun cs (x : Value × Nat) => cs.setIfInBounds (o + x.2) x.1) c' (u'.toList.zipIdx n)) := by
          intro u u' n hu
          have hl := hu.toList
          generalize u.toList = a at hl
          generalize u'.toList = a' at hl
          clear hu hg hcs ih
          induction hl generalizing n c c' with
          | nil => exact hc
          | cons h _ ih => exact ih (hc := hc.set _ h) (n + 1)
        have := key v.cells v'.cells 0 hv.cells
        rw [← Array.foldl_toList, ← Array.foldl_toList, Array.toList_zipIdx, Array.toList_zipIdx]
        exact this

theorem map_parts {e e' : Operand → Value} {ps : Array (Nat × Operand)} (he : ∀ p ∈ ps, VR S r (e p.2) (e' p.2)) :
    L2 (fun (x y : Nat × Value) => x.1 = y.1 ∧ VR S r x.2 y.2) (ps.map fun (i, x) => (i, e x)).toList (ps.map fun (i, x) => (i, e' x)).toList := by
  simp only [Array.toList_map]
  have he' : ∀ p ∈ ps.toList, VR S r (e p.2) (e' p.2) := fun p hp => he p (Array.mem_toList_iff.1 hp)
  generalize ps.toList = l at he'
  induction l with
  | nil => exact .nil
  | cons p l ih => exact .cons ⟨rfl, he' p (by simp)⟩ (ih fun q hq => he' q (by simp [hq]))
theorem map_args {e e' : Operand → Value} {xs : Array Operand} (he : ∀ x ∈ xs, VR S r (e x) (e' x)) : AR S r (xs.map e) (xs.map e') := by
  refine .of (by simp) fun i v v' h h' => ?_
  simp only [Array.getElem?_map, Option.map_eq_some_iff] at h h'
  obtain ⟨x, hx, rfl⟩ := h
  obtain ⟨y, hy, rfl⟩ := h'
  rw [hx] at hy; simp only [Option.some.injEq] at hy; subst hy
  exact he x (Array.mem_of_getElem? hx)

theorem sr_build {t : TypeId} (hz : zeroOk P t = true) {ps ps' : Array (Nat × Value)} (hp : L2 (fun x y => x.1 = y.1 ∧ VR S r x.2 y.2) ps.toList ps'.toList) :
    SemR P S K (VRq S) r (Instr.build t ps) (Instr.build t ps') := by
  unfold Instr.build
  refine sr_zero hz fun v hv => ?_
  refine sr_und fun d _ => ?_
  have hc : AR S r v.cells v.cells := (flat_refl hv).cells
  cases d with
  | struct fs =>
    dsimp only
    refine query_mapM (fun f => query_bind (query_size _) fun n => query_pure _) fs fun pl => ?_
    rcases fill_rel (place := (pl[·]?)) hp hc with e | ⟨d, d', e, e', hd⟩
    · rw [e]; exact .dead trivial
    · rw [e, e']; exact .pure (.toAgg hd)
  | array n el =>
    dsimp only
    refine sr_size fun z _ => ?_
    rcases fill_rel (place := fun i => some (i * z, z)) hp hc with e | ⟨d, d', e, e', hd⟩
    · rw [e]; exact .dead trivial
    · rw [e, e']; exact .pure (.toAgg hd)
  | _ => exact .dead trivial
/-- The zero of a slice's element, where it names no block. -/
def elemOk (P : Program) (t : TypeId) : Bool := match P.underlying t with | some (.slice e) => zeroOk P e | _ => true
theorem sr_buildSlice {t : TypeId} {n : Nat} (hz : elemOk P t = true) {ps ps' : Array (Nat × Value)} (hp : L2 (fun x y => x.1 = y.1 ∧ VR S r x.2 y.2) ps.toList ps'.toList) :
    SemR P S K (VRq S) r (Instr.buildSlice t n ps) (Instr.buildSlice t n ps') := by
  unfold Instr.buildSlice
  refine sr_und fun d hd => ?_
  unfold elemOk at hz
  rw [hd] at hz
  cases d with
  | slice e =>
    simp only [bind_assoc] at hz ⊢
    refine sr_size fun z _ => ?_
    split
    · exact .dead trivial
    · have fin : ∀ c, AR S r c c → SemR P S K (VRq S) r
          (match Instr.fill (fun i => some (i * z, z)) c ps.toList with | some cells => newRow e cells >>= fun a => pure (.slice (some a) n n) | _ => stuck "buildSlice: a part of the wrong size" : Sem Value)
          (match Instr.fill (fun i => some (i * z, z)) c ps'.toList with | some cells => newRow e cells >>= fun a => pure (.slice (some a) n n) | _ => stuck "buildSlice: a part of the wrong size" : Sem Value) := fun c hc => by
        rcases fill_rel (place := fun i => some (i * z, z)) hp hc with e | ⟨d, d', e, e', hd⟩
        · rw [e]; exact .dead trivial
        · rw [e, e']
          exact sr_newRow hd fun r₂ a a' _ ha => .pure (.slcOf ha _ _)
      by_cases h0 : n * z = 0
      · simp only [h0, if_true, pure_bind]
        exact fin _ ⟨by simp, fun i h _ => by simp at h⟩
      · simp only [h0, if_false, bind_assoc, pure_bind]
        exact sr_zero hz fun v hv => fin _ (range_cells hv _ _)
  | _ => exact .dead trivial
end Go.Proofs.Ytjbpaejjpamcpaa.Sim
/- Two runs of the same code under a renaming of blocks: every operation that the cells' states are reckoned with. -/
namespace Go.Proofs.Ytjbpaejjpamcpaa.Sim
set_option linter.unusedSimpArgs false
set_option linter.unusedVariables false
open Go
variable {S : FuncId → Prop} {K : Code → Prop} {P : Program} {α β γ δ : Type} {A : Ren → γ → δ → Prop} {r : Ren}

theorem sr_alloc {t : TypeId} (hz : zeroOk P t = true) : SemR P S K (VRq S) r (Instr.alloc t true (.tuple #[])) (Instr.alloc t true (.tuple #[])) := by
  unfold Instr.alloc
  exact sr_zero hz fun v hv => sr_newVar (flat_refl hv) fun r₂ a a' _ ha => .pure (.ptrOf ha)
theorem sr_box {t : TypeId} {v v' : Value} (hv : VR S r v v') : SemR P S K (VRq S) r (Instr.box t v) (Instr.box t v') := sr_newVar hv fun r₂ a a' _ ha => .pure (.ptrOf ha)
theorem sr_loadAt {t : TypeId} {v v' : Value} (hv : VR S r v v') : SemR P S K (VRq S) r (Instr.loadAt t v) (Instr.loadAt t v') := by
  unfold Instr.loadAt
  refine sr_sure hv fun a a' ha => ?_
  have := sr_loadVar (P := P) (K := K) (A := VRq S) (t := t) (f := pure) (f' := pure) ha fun v v' hv => .pure hv
  simpa only [bind_pure] using this
theorem sr_storeAt {t : TypeId} {v v' x x' : Value} (hv : VR S r v v') (hx : VR S r x x') : SemR P S K (fun _ _ _ => True) r (Instr.storeAt t v x) (Instr.storeAt t v' x') := by
  unfold Instr.storeAt
  refine sr_sure hv fun a a' ha => ?_
  have := sr_storeVar (P := P) (K := K) (A := fun _ _ _ => True) (t := t) (f := pure) (f' := pure) ha hx (.pure trivial)
  simpa only [bind_pure] using this
/-- The field takes room. -/
def fieldOk (P : Program) (t : TypeId) (i : Nat) : Bool := match P.underlying t with
  | some (.struct fs) => match fs[i]? with
    | some f => match P.info? f.type with | some d => d.size != 0 | none => true
    | none => true
  | _ => true
theorem sr_fieldAt {t : TypeId} {i : Nat} (ht : fieldOk P t i = true) {v v' : Value} (hv : VR S r v v') : SemR P S K (VRq S) r (Instr.fieldAt t v i) (Instr.fieldAt t v' i) := by
  unfold Instr.fieldAt
  refine sr_und fun d hd => ?_
  unfold fieldOk at ht
  rw [hd] at ht
  cases d with
  | struct fs =>
    simp only at ht ⊢
    cases hf : fs[i]? with
    | none => exact .dead trivial
    | some f =>
      rw [hf] at ht
      simp only [bind_assoc] at ht ⊢
      refine sr_sure hv fun a a' ha => ?_
      unfold fieldPlace
      simp only [bind_assoc]
      refine sr_size fun n hn => ?_
      have h0 : n ≠ 0 := by
        intro e
        cases hi : P.info? f.type with
        | none => rw [hi] at hn; cases hn
        | some d => rw [hi] at ht hn; simp at ht hn; omega
      simp only [h0, if_false, pure_bind]
      exact .pure (.ptrOf (ha.add _))
  | _ => exact .dead trivial
theorem sr_field {t : TypeId} {i : Nat} {v v' : Value} (hv : VR S r v v') : SemR P S K (VRq S) r (Instr.field t v i) (Instr.field t v' i) := by
  unfold Instr.field
  refine sr_und fun d hd => ?_
  cases d with
  | struct fs =>
    dsimp only
    cases fs[i]? with
    | none => exact .dead trivial
    | some f =>
      refine sr_asAgg hv fun c c' hc => ?_
      have := sr_part (P := P) (K := K) (A := VRq S) (t := f.type) (o := f.offset) (f := pure) (f' := pure) hc fun v v' hv => .pure hv
      simpa only [bind_pure] using this
  | _ => exact .dead trivial
theorem sr_extract {i : Nat} {v v' : Value} (hv : VR S r v v') : SemR P S K (VRq S) r (Instr.extract v i) (Instr.extract v' i) := by
  cases hv with
  | @tuple c c' hs ha =>
    have hc : AR S r c c' := ⟨hs, ha⟩
    unfold Instr.extract
    dsimp only
    cases e : c[i]? with
    | none => exact .dead trivial
    | some x => obtain ⟨x', e', hx⟩ := hc.get e; rw [e']; exact .pure hx
  | _ => exact .dead trivial
theorem sr_indexAt {t : TypeId} {v v' x x' : Value} (hv : VR S r v v') (hx : VR S r x x') : SemR P S K (VRq S) r (Instr.indexAt t v x) (Instr.indexAt t v' x') := by
  have fin : ∀ (k : IntKind) (i : Int) (len : Nat) (el : TypeId) (tiny : Bool) (b b' : Option Addr), (b = none ∧ b' = none ∨ ∃ a a', b = some a ∧ b' = some a' ∧ AdR r a a') →
      SemR P S K (VRq S) r
        (match b with
          | some a => if 0 ≤ i ∧ i < len then (do pure (.pointer (some (a.add (i.toNat * (← sizeOf el)))))) else if tiny = true then unsupported (.noEntry "op/indexAddr.an index out of range at an array of length 0 or 1 (ledger 616)") else boundsPanic k i len .index
          | none => boundsPanic k i 0 .index : Sem Value)
        (match b' with
          | some a => if 0 ≤ i ∧ i < len then (do pure (.pointer (some (a.add (i.toNat * (← sizeOf el)))))) else if tiny = true then unsupported (.noEntry "op/indexAddr.an index out of range at an array of length 0 or 1 (ledger 616)") else boundsPanic k i len .index
          | none => boundsPanic k i 0 .index : Sem Value) := by
    intro k i len el tiny b b' hb
    rcases hb with ⟨rfl, rfl⟩ | ⟨a, a', rfl, rfl, ha⟩
    · exact sr_bounds
    · dsimp only
      split
      · exact sr_size fun n _ => .pure (.ptrOf (ha.add _))
      · split
        · exact .dead trivial
        · exact sr_bounds
  unfold Instr.indexAt
  refine sr_asIntOf hx fun k i => ?_
  simp only [bind_assoc]
  refine sr_und fun d hd => ?_
  cases d with
  | array n el =>
    simp only [bind_assoc, pure_bind]
    refine sr_sure hv fun a a' ha => ?_
    refine sr_und fun d hd' => ?_
    exact fin k i n el _ (some a) (some a') (.inr ⟨a, a', rfl, rfl, ha⟩)
  | slice el =>
    cases hv with
    | snil l c =>
      simp only [pure_bind]
      refine sr_und fun d hd' => ?_
      exact sr_bounds
    | slc l c h =>
      simp only [pure_bind]
      refine sr_und fun d hd' => ?_
      exact fin k i l el _ _ _ (.inr ⟨_, _, rfl, rfl, .mk h⟩)
    | _ => exact .dead trivial
  | _ =>
    cases hv with
    | _ => exact .dead trivial
theorem sr_unary {op : UnOp} {v v' : Value} (hv : VR S r v v') : SemR P S K (VRq S) r (Op.unary op v) (Op.unary op v') := by
  cases hv <;> cases op <;> first | exact .pure (.int _ _) | exact .pure (.bool _) | exact .dead trivial
theorem sr_max2 {v v' x x' : Value} (hv : VR S r v v') (hx : VR S r x x') : SemR P S K (VRq S) r (Builtin.max2 v x) (Builtin.max2 v' x') := by
  cases hv <;> cases hx <;> first | exact .pure (.int _ _) | exact .dead trivial
theorem sr_min2 {v v' x x' : Value} (hv : VR S r v v') (hx : VR S r x x') : SemR P S K (VRq S) r (Builtin.min2 v x) (Builtin.min2 v' x') := by
  cases hv <;> cases hx <;> first | exact .pure (.int _ _) | exact .dead trivial
theorem sr_foldlM {f : Value → Value → Sem Value} (hf : ∀ {r : Ren} {v v' x x'}, VR S r v v' → VR S r x x' → SemR P S K (VRq S) r (f v x) (f v' x')) {l l' : List Value} (hl : L2 (VR S r) l l') :
    ∀ {r₂ : Ren} {v v' : Value}, Ren.le r r₂ → VR S r₂ v v' → SemR P S K (VRq S) r₂ (l.foldlM f v) (l'.foldlM f v') := by
  induction hl with
  | nil => exact fun _ hv => .pure hv
  | cons hx _ ih => exact fun hr hv => by rw [List.foldlM_cons, List.foldlM_cons]; exact (hf hv (hx.mono hr)).bind fun r₃ a b hr' h => ih (Ren.le_trans hr hr') h
theorem sr_max {a : Array TypeId} {t : TypeId} {c c' : Array Value} (hc : AR S r c c') : SemR P S K (VRq S) r (Builtin.max_ a t c) (Builtin.max_ a t c') := by
  unfold Builtin.max_
  have hl := hc.toList
  generalize c.toList = l at hl
  generalize c'.toList = l' at hl
  cases hl with
  | nil => exact .dead trivial
  | cons h hl => exact sr_foldlM (fun h h' => sr_max2 h h') hl (Ren.le_refl _) h
theorem sr_min {a : Array TypeId} {t : TypeId} {c c' : Array Value} (hc : AR S r c c') : SemR P S K (VRq S) r (Builtin.min_ a t c) (Builtin.min_ a t c') := by
  unfold Builtin.min_
  have hl := hc.toList
  generalize c.toList = l at hl
  generalize c'.toList = l' at hl
  cases hl with
  | nil => exact .dead trivial
  | cons h hl => exact sr_foldlM (fun h h' => sr_min2 h h') hl (Ren.le_refl _) h
theorem sr_len {a : Array TypeId} {t : TypeId} {c c' : Array Value} (hc : AR S r c c') : SemR P S K (VRq S) r (Builtin.len_ a t c) (Builtin.len_ a t c') := by
  unfold Builtin.len_
  cases ea : a[0]? with
  | none => exact .dead trivial
  | some t0 =>
    cases e : c[0]? with
    | none => exact .dead trivial
    | some x =>
      obtain ⟨x', e', hx⟩ := hc.get e
      rw [e']
      dsimp only
      refine sr_und fun d hd => ?_
      cases d with
      | array n el => cases hx <;> exact .pure (.int _ _)
      | pointer el =>
        have : SemR P S K (VRq S) r (underlying el >>= fun d => match d with | .array n _ => pure (goInt n) | _ => stuck "len: pointer to array expected") (underlying el >>= fun d => match d with | .array n _ => pure (goInt n) | _ => stuck "len: pointer to array expected") := by
          refine sr_und fun d _ => ?_
          cases d <;> first | exact .pure (.int _ _) | exact .dead trivial
        cases hx <;> exact this
      | slice el => cases hx <;> first | exact .pure (.int _ _) | exact .dead trivial
      | _ => cases hx <;> first | exact .dead trivial | skip
theorem sr_convert {t u : TypeId} {k k' : IntKind} (ht : P.underlying t = some (.int k)) (hu : P.underlying u = some (.int k')) {v v' : Value} (hv : VR S r v v') : SemR P S K (VRq S) r (convert t u v) (convert t u v') := by
  unfold convert
  refine sr_und fun d hd => ?_
  refine sr_und fun d' hd' => ?_
  rw [ht] at hd
  rw [hu] at hd'
  simp only [Option.some.injEq] at hd hd'
  subst hd hd'
  cases hv <;> first | exact .pure (.int _ _) | exact .dead trivial
inductive OptR (S : FuncId → Prop) (r : Ren) : Option Value → Option Value → Prop
  | none : OptR S r none none
  | some {v v' : Value} : VR S r v v' → OptR S r (some v) (some v')
theorem sr_sliceBound {v v' : Value} (hv : VR S r v v') {y : Nat} {c : BoundsCode} {f : Nat → Sem γ} {f' : Nat → Sem δ} (h : ∀ n, SemR P S K A r (f n) (f' n)) : SemR P S K A r (Instr.sliceBound v y c >>= f) (Instr.sliceBound v' y c >>= f') := by
  unfold Instr.sliceBound
  simp only [bind_assoc]
  refine sr_asIntOf hv fun k i => ?_
  split
  · simp only [pure_bind]; exact h _
  · exact sr_bounds.bind fun _ _ _ _ hf => (hf : False).elim
theorem sr_sliceBounds {lo lo' hi hi' mx mx' : Option Value} (h1 : OptR S r lo lo') (h2 : OptR S r hi hi') (h3 : OptR S r mx mx') {b : Bool} {n c : Nat} {f : Nat × Nat × Nat → Sem γ} {f' : Nat × Nat × Nat → Sem δ}
    (h : ∀ x, SemR P S K A r (f x) (f' x)) : SemR P S K A r (Instr.sliceBounds b n c lo hi mx >>= f) (Instr.sliceBounds b n c lo' hi' mx' >>= f') := by
  unfold Instr.sliceBounds
  cases h3 with
  | none =>
    cases h2 with
    | none =>
      cases h1 with
      | none => simp only [pure_bind]; exact h _
      | some hv => simp only [bind_assoc, pure_bind]; exact sr_sliceBound hv fun _ => h _
    | some hw =>
      cases h1 with
      | none => simp only [bind_assoc, pure_bind]; exact sr_sliceBound hw fun _ => h _
      | some hv => simp only [bind_assoc, pure_bind]; exact sr_sliceBound hw fun _ => sr_sliceBound hv fun _ => h _
  | some hm =>
    cases h2 with
    | none => simp only [bind_assoc, pure_bind]; exact sr_sliceBound hm fun _ => .dead trivial
    | some hw =>
      cases h1 with
      | none => simp only [bind_assoc, pure_bind]; exact sr_sliceBound hm fun _ => sr_sliceBound hw fun _ => h _
      | some hv => simp only [bind_assoc, pure_bind]; exact sr_sliceBound hm fun _ => sr_sliceBound hw fun _ => sr_sliceBound hv fun _ => h _
theorem sr_sliceAt {t e : TypeId} (ht : P.underlying t = some (.slice e)) {v v' : Value} (hv : VR S r v v') {lo lo' hi hi' mx mx' : Option Value} (h1 : OptR S r lo lo') (h2 : OptR S r hi hi') (h3 : OptR S r mx mx') :
    SemR P S K (VRq S) r (Instr.sliceAt t v lo hi mx) (Instr.sliceAt t v' lo' hi' mx') := by
  unfold Instr.sliceAt
  refine sr_und fun d hd => ?_
  rw [ht] at hd
  simp only [Option.some.injEq] at hd
  subst hd
  dsimp only
  unfold Instr.slice
  refine sr_und fun d hd => ?_
  rw [ht] at hd
  simp only [Option.some.injEq] at hd
  subst hd
  cases hv with
  | snil l c =>
    dsimp only
    refine sr_sliceBounds h1 h2 h3 fun x => ?_
    refine sr_size fun z _ => ?_
    obtain ⟨l', h', m⟩ := x
    have : (if m = l' then (none : Option Addr) else Option.map (fun a : Addr => a.add (l' * z)) none) = none := by split <;> rfl
    dsimp only
    rw [this]
    exact .pure (.snil _ _)
  | slc l c hr =>
    dsimp only
    refine sr_sliceBounds h1 h2 h3 fun x => ?_
    refine sr_size fun z _ => ?_
    obtain ⟨l', h', m⟩ := x
    dsimp only
    split
    · exact .pure (.slc _ _ hr)
    · exact .pure (.slcOf ((AdR.mk hr).add _) _ _)
  | _ => exact .dead trivial
end Go.Proofs.Ytjbpaejjpamcpaa.Sim
/- Two runs of the same code under a renaming of blocks: append, calls, loops' bodies; every operation ('sr_execOp'). -/
namespace Go.Proofs.Ytjbpaejjpamcpaa.Sim
set_option linter.unusedSimpArgs false
set_option linter.unusedVariables false
open Go
variable {S : FuncId → Prop} {K : Code → Prop} {P : Program} {α β γ δ : Type} {A : Ren → γ → δ → Prop} {r : Ren}

theorem sr_room {n : Nat} {f : Unit → Sem γ} {f' : Unit → Sem δ} (h : SemR P S K A r (f ()) (f' ())) : SemR P S K A r (askRoom n >>= f) (askRoom n >>= f') := by
  unfold askRoom
  split
  · exact .room h
  · exact h
theorem sr_lenOf {v v' : Value} (hv : VR S r v v') {f : Nat → Sem γ} {f' : Nat → Sem δ} (h : ∀ n, ¬ JJ v → SemR P S K A r (f n) (f' n)) : SemR P S K A r (Builtin.lenOf v >>= f) (Builtin.lenOf v' >>= f') := by
  cases hv <;> first | exact h _ (by rintro ⟨z, hz⟩; cases hz) | exact .dead trivial
theorem sr_firstCells {z n : Nat} {v v' : Value} (hv : VR S r v v') {f : Array Value → Sem γ} {f' : Array Value → Sem δ} (h : ∀ c c', AR S r c c' → SemR P S K A r (f c) (f' c')) :
    SemR P S K A r (Builtin.firstCells z n v >>= f) (Builtin.firstCells z n v' >>= f') := by
  cases hv with
  | snil l c => exact h _ _ .nil
  | slc l c hr => exact sr_loadCells (.mk hr) h
  | _ => exact .dead trivial
theorem sr_holds {a a' : Addr} (ha : AdR r a a') {n : Nat} {f : Bool → Sem γ} {f' : Bool → Sem δ} (h : ∀ b, SemR P S K A r (f b) (f' b)) : SemR P S K A r (Builtin.holdsCells a n >>= f) (Builtin.holdsCells a' n >>= f') := by
  unfold Builtin.holdsCells
  simp only [bind_assoc]
  cases ha with
  | mk hr =>
    refine sr_shape hr fun s => ?_
    cases s with
    | none => exact h _
    | some s => exact h _
/-- A program that ends whatever comes. -/
theorem sr_mayShare {z n m : Nat} {b b' : Option Addr} (hb : b = none ∧ b' = none ∨ ∃ a a', b = some a ∧ b' = some a' ∧ AdR r a a') {v v' : Value} (hv : VR S r v v') (hne : ¬ JJ v) {f : Bool → Sem γ} {f' : Bool → Sem δ}
    (h : ∀ b b', SemR P S K A r (f b) (f' b')) : SemR P S K A r (Builtin.mayShare z n m b v >>= f) (Builtin.mayShare z n m b' v' >>= f') := by
  unfold Builtin.mayShare
  cases hv with
  | slc l c hr =>
    rcases hb with ⟨rfl, rfl⟩ | ⟨a, a', rfl, rfl, ha⟩
    · simp only [pure_bind, Bool.not_true, Bool.false_eq_true, if_false, bind_assoc]
      exact sr_holds (.mk hr) fun x => h _ _
    · simp only [bind_assoc, pure_bind]
      refine sr_holds ha fun x => ?_
      refine sr_frozen (ha.add _) fun y => ?_
      split
      · exact h _ _
      · simp only [bind_assoc, pure_bind]
        exact sr_holds (.mk hr) fun x => h _ _
  | junk _ => exact absurd ⟨_, rfl⟩ hne
  | _ =>
    rcases hb with ⟨rfl, rfl⟩ | ⟨a, a', rfl, rfl, ha⟩
    · exact h _ _
    · simp only [bind_assoc, pure_bind]
      refine sr_holds ha fun x => ?_
      refine sr_frozen (ha.add _) fun y => ?_
      split
      · exact h _ _
      · exact h _ _
/-- append of a slice to a slice, of elements whose zero names no block. -/
def appOk (P : Program) (a : Array TypeId) : Bool := (match a[0]? with | some t => elemOk P t | none => true) && (match a[1]? with | some t => !((P.underlying t) matches some (.int _)) | none => true)
set_option maxHeartbeats 4000000 in
theorem sr_append {a : Array TypeId} {t : TypeId} (hok : appOk P a = true) {c c' : Array Value} (hc : AR S r c c') : SemR P S K (VRq S) r (Builtin.append_ a t c) (Builtin.append_ a t c') := by
  unfold appOk at hok
  rw [Bool.and_eq_true] at hok
  obtain ⟨hk1, hk2⟩ := hok
  unfold Builtin.append_
  cases ea : a[0]? with
  | none => exact .dead trivial
  | some t0 =>
    rw [ea] at hk1
    dsimp only at hk1
    cases e0 : c[0]? with
    | none => exact .dead trivial
    | some s =>
      obtain ⟨s', e0', hs⟩ := hc.get e0
      cases e1 : c[1]? with
      | none => exact .dead trivial
      | some x =>
        obtain ⟨x', e1', hx⟩ := hc.get e1
        rw [e0', e1']
        dsimp only
        refine sr_und fun d hd => ?_
        unfold elemOk at hk1
        rw [hd] at hk1
        cases d with
        | slice el =>
          dsimp only at hk1 ⊢
          cases hs with
          | snil l cp =>
            simp only [bind_assoc]
            refine sr_size fun z _ => ?_
            cases e2 : a[1]? with
            | none =>
              simp only [pure_bind, Bool.false_eq_true, if_false, Bool.not_false, if_true, false_or]
              refine sr_lenOf hx fun n hne => ?_
              by_cases h1 : l + n ≤ cp
              · simp only [h1, if_true]
                refine sr_firstCells hx fun q q' hq => ?_
                exact sr_pureV (.snil _ _)
              · simp only [h1, if_false]
                refine sr_info fun d _ => ?_
                split
                · exact sr_rtp rfl
                · refine sr_info fun d _ => ?_
                  split
                  · simp only [bind_assoc]
                    refine sr_mayShare (.inl ⟨rfl, rfl⟩) hx hne fun b b' => ?_
                    split
                    · exact .roomDead trivial
                    · exact .dead trivial
                  · refine sr_choose fun m => ?_
                    refine sr_info fun d _ => ?_
                    refine sr_room ?_
                    refine sr_firstCells (.snil _ _) fun q q' hq => ?_
                    refine sr_firstCells hx fun u u' hu => ?_
                    refine sr_zero hk1 fun v hv => ?_
                    exact sr_newRow ((hq.append hu).append (range_cells hv _ _)) fun r₂ a a' _ ha => sr_pureV (.slcOf ha _ _)
            | some t2 =>
              rw [e2] at hk2
              dsimp only at hk2 ⊢
              refine sr_und fun d2 hd2 => ?_
              rw [hd2] at hk2
              cases d2 with
              | int k => simp at hk2
              | _ =>
                simp only [pure_bind, Bool.false_eq_true, if_false, Bool.not_false, if_true, false_or]
                refine sr_lenOf hx fun n hne => ?_
                by_cases h1 : l + n ≤ cp
                · simp only [h1, if_true]
                  refine sr_firstCells hx fun q q' hq => ?_
                  exact sr_pureV (.snil _ _)
                · simp only [h1, if_false]
                  refine sr_info fun d _ => ?_
                  split
                  · exact sr_rtp rfl
                  · refine sr_info fun d _ => ?_
                    split
                    · simp only [bind_assoc]
                      refine sr_mayShare (.inl ⟨rfl, rfl⟩) hx hne fun b b' => ?_
                      split
                      · exact .roomDead trivial
                      · exact .dead trivial
                    · refine sr_choose fun m => ?_
                      refine sr_info fun d _ => ?_
                      refine sr_room ?_
                      refine sr_firstCells (.snil _ _) fun q q' hq => ?_
                      refine sr_firstCells hx fun u u' hu => ?_
                      refine sr_zero hk1 fun v hv => ?_
                      exact sr_newRow ((hq.append hu).append (range_cells hv _ _)) fun r₂ a a' _ ha => sr_pureV (.slcOf ha _ _)
          | slc l cp hr =>
            simp only [bind_assoc]
            refine sr_size fun z _ => ?_
            cases e2 : a[1]? with
            | none =>
              simp only [pure_bind, Bool.false_eq_true, if_false, Bool.not_false, if_true, false_or]
              refine sr_lenOf hx fun n hne => ?_
              by_cases h1 : l + n ≤ cp
              · simp only [h1, if_true]
                refine sr_firstCells hx fun q q' hq => ?_
                exact sr_storeCells ((AdR.mk hr).add _) hq.toList (sr_pureV (.slc _ _ hr)) 0
              · simp only [h1, if_false]
                refine sr_info fun d _ => ?_
                split
                · exact sr_rtp rfl
                · refine sr_info fun d _ => ?_
                  split
                  · simp only [bind_assoc]
                    refine sr_mayShare (.inr ⟨_, _, rfl, rfl, .mk hr⟩) hx hne fun b b' => ?_
                    split
                    · exact .roomDead trivial
                    · exact .dead trivial
                  · refine sr_choose fun m => ?_
                    refine sr_info fun d _ => ?_
                    refine sr_room ?_
                    refine sr_firstCells (.slc _ _ hr) fun q q' hq => ?_
                    refine sr_firstCells hx fun u u' hu => ?_
                    refine sr_zero hk1 fun v hv => ?_
                    exact sr_newRow ((hq.append hu).append (range_cells hv _ _)) fun r₂ a a' _ ha => sr_pureV (.slcOf ha _ _)
            | some t2 =>
              rw [e2] at hk2
              dsimp only at hk2 ⊢
              refine sr_und fun d2 hd2 => ?_
              rw [hd2] at hk2
              cases d2 with
              | int k => simp at hk2
              | _ =>
                simp only [pure_bind, Bool.false_eq_true, if_false, Bool.not_false, if_true, false_or]
                refine sr_lenOf hx fun n hne => ?_
                by_cases h1 : l + n ≤ cp
                · simp only [h1, if_true]
                  refine sr_firstCells hx fun q q' hq => ?_
                  exact sr_storeCells ((AdR.mk hr).add _) hq.toList (sr_pureV (.slc _ _ hr)) 0
                · simp only [h1, if_false]
                  refine sr_info fun d _ => ?_
                  split
                  · exact sr_rtp rfl
                  · refine sr_info fun d _ => ?_
                    split
                    · simp only [bind_assoc]
                      refine sr_mayShare (.inr ⟨_, _, rfl, rfl, .mk hr⟩) hx hne fun b b' => ?_
                      split
                      · exact .roomDead trivial
                      · exact .dead trivial
                    · refine sr_choose fun m => ?_
                      refine sr_info fun d _ => ?_
                      refine sr_room ?_
                      refine sr_firstCells (.slc _ _ hr) fun q q' hq => ?_
                      refine sr_firstCells hx fun u u' hu => ?_
                      refine sr_zero hk1 fun v hv => ?_
                      exact sr_newRow ((hq.append hu).append (range_cells hv _ _)) fun r₂ a a' _ ha => sr_pureV (.slcOf ha _ _)
          | _ => exact .dead trivial
        | _ => exact .dead trivial
end Go.Proofs.Ytjbpaejjpamcpaa.Sim
/- Two runs of the same code under a renaming of blocks: calls, loops' bodies; every operation ('sr_execOp'). -/
namespace Go.Proofs.Ytjbpaejjpamcpaa.Sim
set_option linter.unusedSimpArgs false
set_option linter.unusedVariables false
open Go
variable {S : FuncId → Prop} {K : Code → Prop} {P : Program} {α β γ δ : Type} {A : Ren → γ → δ → Prop} {r : Ren}

/-- What an operation hands on. -/
inductive NR (S : FuncId → Prop) (K : Code → Prop) (r : Ren) : Next → Next → Prop
  | value {v v' : Value} : VR S r v v' → NR S K r (.value v) (.value v')
  | skip : NR S K r .skip .skip
  | enter {f : FuncId} {c c' : Array Value} : S f → AR S r c c' → NR S K r (.enter f c) (.enter f c')
  | round {l l' : Nat} {f : FuncId} {c c' : Array Value} {x y : Code} : r l = some l' → S f → K x → K y → AR S r c c' → NR S K r (.round l f c x y) (.round l' f c' x y)

/-- What is asked of the functions of the set: a body that is let by, and a name of their own. -/
def FnsOk (P : Program) (S : FuncId → Prop) (K : Code → Prop) : Prop := ∀ f, S f → ∃ fn, P.funcs[f]? = some fn ∧ (fn.name == "runtime.NumGoroutine") = false ∧ ∃ c, fn.body = some c ∧ K c

theorem sr_callFunc (hS : FnsOk P S K) {f : FuncId} (hf : S f) {c c' : Array Value} (hc : AR S r c c') : SemR P S K (NR S K) r (callFunc f c) (callFunc f c') := by
  obtain ⟨fn, h1, h2, b, h3, _⟩ := hS f hf
  unfold callFunc
  refine sr_program ?_
  rw [h1]
  dsimp only
  rw [h2, h3]
  exact .pure (.enter hf hc)

theorem sr_getLoop {l l' : Nat} (hl : r l = some l') {f : Loop → Sem γ} {f' : Loop → Sem δ} (h : ∀ x x', LoopR S K r x x' → SemR P S K A r (f x) (f' x')) : SemR P S K A r (Instr.getLoop l >>= f) (Instr.getLoop l' >>= f') := by
  unfold Instr.getLoop
  simp only [bind_assoc]
  refine sr_getObj hl fun o o' ho => ?_
  cases ho with
  | loop hx => exact h _ _ hx
  | _ => exact .dead trivial

theorem zip_sets {c c' : Array Value} (hc : AR S r c c') {l l' : List Value} (hl : L2 (VR S r) l l') : ∀ ps : List Tmp,
    AR S r ((ps.zip l).foldl (fun t (x : Tmp × Value) => t.setIfInBounds x.1 x.2) c) ((ps.zip l').foldl (fun t (x : Tmp × Value) => t.setIfInBounds x.1 x.2) c') := by
  induction hl generalizing c c' with
  | nil => intro ps; simpa using hc
  | cons hx _ ih =>
    intro ps
    cases ps with
    | nil => simpa using hc
    | cons p ps => exact ih (hc.set p hx) ps

theorem sr_yield {l l' : Nat} (hl : r l = some l') {c c' : Array Value} (hc : AR S r c c') : SemR P S K (NR S K) r (Instr.yield l c) (Instr.yield l' c') := by
  unfold Instr.yield
  refine sr_getLoop hl fun x x' hx => ?_
  rw [← hc.size, ← hx.params]
  split
  · exact .dead trivial
  · rw [← hx.fn, ← hx.assign, ← hx.body]
    refine .pure (.round hl hx.fnS hx.assignK hx.bodyK ?_)
    rw [← Array.foldl_toList, ← Array.foldl_toList, Array.toList_zip, Array.toList_zip]
    exact zip_sets hx.tmps hc.toList _

theorem info_dead (hJ : (P.info? J0).isNone = true) {f : TypeInfo → Sem γ} {s' : Sem δ} : SemR P S K A r (typeInfo J0 >>= f) s' := by
  rw [info_eq]
  refine .progL ?_
  rw [Option.isNone_iff_eq_none.1 hJ]
  exact .dead trivial
theorem nilAhead_dead (hJ : (P.info? J0).isNone = true) {n : Nat} {w : Value} {x : String} {f : Option Bool → Sem γ} {s' : Sem δ} (h0 : SemR P S K A r (f none) s') : SemR P S K A r (nilAhead n J0 w x >>= f) s' := by
  cases n with
  | zero => exact h0
  | succ n =>
    unfold nilAhead
    simp only [bind_assoc]
    exact info_dead hJ
theorem method_dead (hJ : (P.info? J0).isNone = true) {n : Nat} {w : Value} {x : String} {f : FuncId × Value → Sem γ} {s' : Sem δ} : SemR P S K A r (method n J0 w x >>= f) s' := by
  cases n with
  | zero => exact .dead trivial
  | succ n =>
    unfold method
    simp only [bind_assoc]
    exact info_dead hJ
/-- What a call of it comes to. -/
def callMethodAll (z : Value) (c : Array Value) : Sem Next := do
  let d ← Deferred.ofValue (JF z) c
  invoke d.target d.args
theorem callMethodAll_dead (hJ : (P.info? J0).isNone = true) {z : Value} {c : Array Value} {A : Ren → Next → δ → Prop} {s' : Sem δ} : SemR P S K A r (callMethodAll z c) s' := by
  have e : callMethodAll z c = (match (#[Value.iface J0 z] ++ c)[0]? with | some recv => callMethod recv "" ((#[Value.iface J0 z] ++ c).extract 1 (#[Value.iface J0 z] ++ c).size) | _ => stuck "call: a method without a receiver") := rfl
  have e0 : (#[Value.iface J0 z] ++ c)[0]? = some (Value.iface J0 z) := by rw [Array.getElem?_append]; rfl
  rw [e, e0]
  show SemR P S K A r (program >>= fun p => method (p.types.size + Made.depth) J0 z "" >>= fun x => callFunc x.1 _) s'
  exact .progL (method_dead hJ)
theorem sr_callValue (hS : FnsOk P S K) (hJ : (P.info? J0).isNone = true) {v v' : Value} (hv : VR S r v v') {c c' : Array Value} (hc : AR S r c c') :
    SemR P S K (NR S K) r (do let d ← Deferred.ofValue v c; invoke d.target d.args) (do let d ← Deferred.ofValue v' c'; invoke d.target d.args) := by
  cases hv with
  | func hf s1 a1 s2 a2 =>
    cases hf with
    | func hf => exact sr_callFunc hS hf ((AR.append ⟨s1, a1⟩ hc).append ⟨s2, a2⟩)
    | yield hl => exact sr_yield hl (AR.append ⟨s1, a1⟩ hc)
  | nilFunc => exact sr_rtp0 (e := .nilDeref) rfl
  | junk _ =>
    show SemR P S K (NR S K) r (callMethodAll _ c) _
    exact callMethodAll_dead hJ
  | _ => exact .dead trivial

/-! ### what is let by -/
section
variable (P : Program) (Sb : FuncId → Bool)
def okOpd : Operand → Bool
  | .tmp _ => true
  | .const v => flatB v
  | .func f => Sb f
  | .global _ => false
def okCall (c : Call) : Bool :=
  c.args.all (okOpd Sb) && (match c.callee with
    | .value f => okOpd Sb f && (P.info? J0).isNone
    | .builtin .len | .builtin .max | .builtin .min => true
    | .builtin .append => appOk P c.argTypes
    | _ => false)
def okInt (t : TypeId) : Bool := match P.underlying t with | some (.int _) => true | _ => false
def okSlc (t : TypeId) : Bool := match P.underlying t with | some (.slice _) => true | _ => false
def okOpt (x : Option Operand) : Bool := match x with | some x => okOpd Sb x | none => true
def okOp : Op → Bool
  | .nilCheck x => okOpd Sb x && (P.info? J0).isNone
  | .convert t u x => okInt P t && okInt P u && okOpd Sb x
  | .slice t x l h m => okSlc P t && okOpd Sb x && okOpt Sb l && okOpt Sb h && okOpt Sb m
  | .move x | .assign x => okOpd Sb x
  | .pick c a b => okOpd Sb c && okOpd Sb a && okOpd Sb b
  | .alloc t => zeroOk P t
  | .box _ x => okOpd Sb x
  | .build t ps => zeroOk P t && ps.all fun p => okOpd Sb p.2
  | .buildSlice t _ ps => elemOk P t && ps.all fun p => okOpd Sb p.2
  | .load _ a => okOpd Sb a
  | .store _ a v => okOpd Sb a && okOpd Sb v
  | .binOp op t x y _ => okBin P op t && okOpd Sb x && okOpd Sb y
  | .unOp _ _ x => okOpd Sb x
  | .makeFunc (.func f) a c => Sb f && a.all (okOpd Sb) && c.all (okOpd Sb)
  | .fieldAddr t x i => fieldOk P t i && okOpd Sb x
  | .field _ x _ => okOpd Sb x
  | .indexAddr _ x i => okOpd Sb x && okOpd Sb i
  | .extract x _ => okOpd Sb x
  | .call c => okCall P Sb c
  | _ => false
end

variable {Sb : FuncId → Bool} {e e' : Operand → Value}
theorem sr_value {s s' : Sem Value} (h : SemR P S K (VRq S) r s s') : SemR P S K (NR S K) r (do pure (.value (← s))) (do pure (.value (← s'))) := h.bind fun _ _ _ _ h => .pure (.value h)

theorem eqGuard_dead {op : BinOp} {t : TypeId} {x y : Operand} {a b : Value} (h : JJ (a) ∨ JJ (b)) {f : Unit → Sem γ} {s' : Sem δ} (hf : ∀ s', SemR P S K A r (f ()) s') : SemR P S K A r (eqGuard op t x y a b >>= f) s' := by
  unfold eqGuard
  cases op <;> first
    | exact hf _
    | (rcases h with ⟨z, rfl⟩ | ⟨z, rfl⟩
       · cases b <;> exact hf _
       · cases a <;> exact hf _)
theorem eqGuard_none {op : BinOp} {t : TypeId} (ht : okBin P op t = true) {x y : Operand} {a a' b b' : Value} (ha : VR S r a a') (hb : VR S r b b') (hne : ¬ (JJ (a) ∨ JJ (b))) {f : Unit → Sem γ} {f' : Unit → Sem δ} (h : SemR P S K A r (f ()) (f' ())) :
    SemR P S K A r (eqGuard op t x y a b >>= f) (eqGuard op t x y a' b' >>= f') := by
  have hg : P.eqGuardType P.depth t = false := by
    have hd : P.depth = (2 * (P.types.size + Made.depth) + 1) + 1 := rfl
    rw [hd]
    unfold Program.eqGuardType
    unfold okBin at ht
    split at ht
    · rename_i hu; rw [hu]
    · rename_i hu; rw [hu]
    · cases ht
  unfold eqGuard
  cases op <;> first
    | exact h
    | (cases ha <;> cases hb <;> first
        | exact h
        | exact absurd (.inl ⟨_, rfl⟩) hne
        | exact absurd (.inr ⟨_, rfl⟩) hne
        | (refine SemR.program ?_
           refine SemR.program ?_
           show SemR P S K A r ((if (!P.eqGuardType P.depth t) = true then pure () else _) >>= f) ((if (!P.eqGuardType P.depth t) = true then pure () else _) >>= f')
           rw [if_pos (by rw [hg]; rfl), if_pos (by rw [hg]; rfl)]
           exact h))

theorem nilCheck_dead (hJ : (P.info? J0).isNone = true) {z : Value} {A : Ren → Next → δ → Prop} {s' : Sem δ} :
    SemR P S K A r (do
        if (← nilAhead ((← program).types.size + Made.depth) J0 z "") != some false then
          unsupported (.noEntry "op/nilCheck.the method's receiver behind this interface value is a nil pointer, or cannot be seen to be none, and the arguments act or may panic (ledger 612)")
        pure (.value (JF z))) s' := by
  refine .progL ?_
  refine nilAhead_dead hJ ?_
  exact .dead trivial
theorem sr_execOp (hS : FnsOk P S K) (hG : Good P.globals.size r) (hSb : ∀ f, Sb f = true → S f) (he : ∀ x, okOpd Sb x = true → VR S r (e x) (e' x)) {o : Oper} (ho : okOp P Sb o.op = true) :
    SemR P S K (NR S K) r (execOp e o) (execOp e' o) := by
  have hargs : ∀ xs : Array Operand, xs.all (okOpd Sb) = true → AR S r (xs.map e) (xs.map e') := fun xs h => map_args fun x hx => he x ((Array.all_eq_true_iff_forall_mem.1 h) x hx)
  have hparts : ∀ ps : Array (Nat × Operand), (ps.all fun p => okOpd Sb p.2) = true → L2 (fun (x y : Nat × Value) => x.1 = y.1 ∧ VR S r x.2 y.2) (ps.map fun (i, x) => (i, e x)).toList (ps.map fun (i, x) => (i, e' x)).toList :=
    fun ps h => map_parts fun p hp => he p.2 ((Array.all_eq_true_iff_forall_mem.1 h) p hp)
  unfold execOp
  generalize o.op = op at ho ⊢
  cases op with
  | nilCheck x =>
    simp only [okOp, Bool.and_eq_true] at ho
    have hx := he x ho.1
    show SemR P S K (NR S K) r (match e x with | _ => _) (match e' x with | _ => _)
    generalize e x = v at hx
    generalize e' x = v' at hx
    cases hx with
    | pnil => exact sr_rtp0 (e := .nilDeref) rfl
    | nilFunc => exact sr_rtp0 (e := .nilDeref) rfl
    | bool b => exact .pure (.value (.bool b))
    | int k n => exact .pure (.value (.int k n))
    | ptr h => exact .pure (.value (.ptr h))
    | snil l c => exact .pure (.value (.snil l c))
    | slc l c h => exact .pure (.value (.slc l c h))
    | func hf s1 a1 s2 a2 => cases hf <;> exact .pure (.value (.func (by first | exact .func (by assumption) | exact .yield (by assumption)) s1 a1 s2 a2))
    | agg s a => exact .pure (.value (.agg s a))
    | tuple s a => exact .pure (.value (.tuple s a))
    | junk _ => exact nilCheck_dead ho.2
  | convert t u x =>
    simp only [okOp, Bool.and_eq_true] at ho
    have int_of : ∀ t, okInt P t = true → ∃ k, P.underlying t = some (.int k) := fun t h => by
      unfold okInt at h
      split at h
      · exact ⟨_, by assumption⟩
      · cases h
    obtain ⟨k, hk⟩ := int_of t ho.1.1
    obtain ⟨k', hk'⟩ := int_of u ho.1.2
    exact sr_value (sr_convert hk hk' (he x ho.2))
  | slice t x l h m =>
    simp only [okOp, Bool.and_eq_true] at ho
    have opt_of : ∀ x : Option Operand, okOpt Sb x = true → OptR S r (x.map e) (x.map e') := fun x h => by
      cases x with
      | none => exact .none
      | some x => exact .some (he x h)
    have hs := ho.1.1.1.1
    unfold okSlc at hs
    split at hs
    · rename_i el ht
      exact sr_value (sr_sliceAt ht (he x ho.1.1.1.2) (opt_of l ho.1.1.2) (opt_of h ho.1.2) (opt_of m ho.2))
    · cases hs
  | move x => exact .pure (.value (he x ho))
  | assign x => exact .pure (.value (he x ho))
  | pick c a b =>
    simp only [okOp, Bool.and_eq_true] at ho
    refine sr_asBool (he c ho.1.1) fun q => ?_
    cases q
    · exact .pure (.value (he b ho.2))
    · exact .pure (.value (he a ho.1.2))
  | alloc t => exact sr_value (sr_alloc ho)
  | box t x => exact sr_value (sr_box (he x ho))
  | build t ps =>
    simp only [okOp, Bool.and_eq_true] at ho
    exact sr_value (sr_build ho.1 (hparts ps ho.2))
  | buildSlice t n ps =>
    simp only [okOp, Bool.and_eq_true] at ho
    exact sr_value (sr_buildSlice ho.1 (hparts ps ho.2))
  | load t a => exact sr_value (sr_loadAt (he a ho))
  | store t a v =>
    simp only [okOp, Bool.and_eq_true] at ho
    exact (sr_storeAt (he a ho.1) (he v ho.2)).bind fun _ _ _ _ _ => .pure .skip
  | binOp op t x y u =>
    simp only [okOp, Bool.and_eq_true] at ho
    by_cases hj : JJ (e x) ∨ JJ (e y)
    · show SemR P S K (NR S K) r ((eqGuard op t x y (e x) (e y) >>= fun _ => binOp op t (e x) (e y)) >>= fun v => pure (.value v)) _
      rw [bind_assoc]
      exact eqGuard_dead hj fun s' => sr_binOp_dead ho.1.1 (he x ho.1.2) (he y ho.2) hj
    · exact sr_value (eqGuard_none ho.1.1 (he x ho.1.2) (he y ho.2) hj (sr_binOp ho.1.1 hG (he x ho.1.2) (he y ho.2)))
  | unOp op t x => exact sr_value (sr_unary (he x ho))
  | makeFunc fn a c =>
    cases fn with
    | func f =>
      simp only [okOp, Bool.and_eq_true] at ho
      exact sr_value (sr_pureV (.toFunc (.func (hSb f ho.1.1)) (hargs a ho.1.2) (hargs c ho.2)))
    | _ => cases ho
  | fieldAddr t x i =>
    simp only [okOp, Bool.and_eq_true] at ho
    exact sr_value (sr_fieldAt ho.1 (he x ho.2))
  | field t x i => exact sr_value (sr_field (he x ho))
  | indexAddr t x i =>
    simp only [okOp, Bool.and_eq_true] at ho
    exact sr_value (sr_indexAt (he x ho.1) (he i ho.2))
  | extract x i => exact sr_value (sr_extract (he x ho))
  | call c =>
    simp only [okOp, okCall, Bool.and_eq_true] at ho
    have ha := hargs c.args ho.1
    show SemR P S K (NR S K) r (resolve e c o.type >>= fun d => invoke d.target d.args) (resolve e' c o.type >>= fun d => invoke d.target d.args)
    unfold resolve
    dsimp only
    cases hc : c.callee with
    | value f =>
      rw [hc] at ho
      have ho2 := Bool.and_eq_true_iff.1 ho.2
      exact sr_callValue hS ho2.2 (he f ho2.1) ha
    | invoke x n => rw [hc] at ho; exact absurd ho.2 (by simp)
    | builtin b =>
      rw [hc] at ho
      cases b <;> first
        | exact sr_value (sr_len ha)
        | exact sr_value (sr_max ha)
        | exact sr_value (sr_min ha)
        | exact sr_value (sr_append ho.2 ha)
        | exact absurd ho.2 (by simp)
  | _ => cases ho
end Go.Proofs.Ytjbpaejjpamcpaa.Sim
