import Derived.Test.YtjbpaejjpamcpaaCd0
import Derived.Conc.WgGenN3
/- (*sync.WaitGroup).Add(1) by the starter, in company: whatever the count. -/
namespace Go.Proofs.Ytjbpaejjpamcpaa.Sim
set_option linter.unusedSimpArgs false
set_option linter.unusedVariables false
open Go Go.Conc Go.ConcN.Gen Go.RowKit Go.Conc.Lib Go.ConcR.Gen
open Go.ConcN (WgLive st_flag st_waiters)
open Go.ConcN.Gen (WgLive.cell0 WgLive.cell1)
open Go.ConcR (KK WgAt stA smA rd wr mk DC0)

section
variable {P : Program} {ty : TypeId} {Wg : Nat} {x : Xs} {S : St} {E : Nat → Prop} {g : Goroutine} {w w₁ : World}
theorem mw_then {T : Goroutine → World → Prop} (n : Nat) (h : Goes P true (RI ty Wg x.Z x.W E) DC0 T n g w) (hT : ∀ g w, T g w → MW P ty Wg x S E g w) : MW P ty Wg x S E g w :=
  (way_of_goes n g w h).bind fun _ g w ⟨e, ht⟩ => by subst e; exact hT g w ht
theorem mw_goes (n : Nat) (h : Goes P true (RI ty Wg x.Z x.W E) DC0 (S E) n g w) : MW P ty Wg x S E g w :=
  (way_of_goes n g w h).mono fun _ g w ⟨e, ht⟩ => by subst e; exact ht
theorem rely_set (hE : ¬ E Wg) (o : Nat) (v : Value) : Rely E w (w.setCell ⟨Wg, o, none⟩ v) := ⟨fun b hb => (aside_setCell w ⟨Wg, o, none⟩ v).block b (fun e => hE (by rw [← show b = Wg from e]; exact hb)), Nat.le_of_eq (aside_setCell w ⟨Wg, o, none⟩ v).size.symm⟩
theorem fs_rely {F : World → Prop} (hF2 : ∀ w w', Rely E w w' → F w → F w') (h : F w ∧ WgLive ty Wg w) (r : RI ty Wg x.Z x.W E w w₁) : F w₁ ∧ WgLive ty Wg w₁ := ⟨hF2 _ _ r.1 h.1, r.2.1⟩
end
variable {L : WgLink}
section
variable {Wg : Nat} {val : Nat → Value} {k : Nat} {x : Xs} {E : Nat → Prop} {Next : Xs → St} {F : World → Prop} {b₀ : Frame} {a₀ : Act} {ops₀ : Array Oper} {i₀ : Nat} {rest₀ : List Nat} {k₀ : List Item} {cs : List Frame}
set_option maxRecDepth 100000 in
set_option maxHeartbeats 8000000 in
theorem addPosS {P : Program} (H : WgLib P L) (hE : ¬ E Wg) (hF2 : ∀ w w', Rely E w w' → F w → F w')
    (hT : ∀ w, F w → WgLive L.tWg Wg w → MW P L.tWg Wg x (MGo P L.tWg Wg val k x Next) E (G (b₀.at (a₀.put ((ops₀[i₀]?).bind (·.dst)) (.tuple #[])) (.inRegion ops₀ rest₀ :: k₀)) cs) w)
    (w : World) (hF : F w ∧ WgLive L.tWg Wg w) :
    Goes P true (RI L.tWg Wg x.Z x.W E) DC0 (MKd P L.tWg Wg val k x Next E) 12
      (G ((base L.add).at ⟨#[.pointer (some ⟨Wg, 0, none⟩), .int .i64 1, undef, undef, undef, undef, undef, undef, undef, undef, undef, undef, undef, undef, undef, undef, undef, undef, undef, undef, undef, undef, undef, undef, undef, undef, undef, undef, undef, undef, undef, undef, undef, undef, undef, undef, undef, undef, undef, undef, undef, undef, undef, undef, undef, undef, undef, undef, undef, undef, undef, undef, undef, undef, undef, undef, undef, undef, undef, undef, undef, undef, undef, undef, undef, undef, undef, undef, undef, undef, undef, undef, undef, undef, undef, undef, undef, undef, undef, undef, undef, undef, undef, undef, undef, undef, undef, undef, undef, undef, undef, undef, undef, undef, undef, undef, undef, undef, undef, undef, undef, undef, undef, undef, undef, undef, undef, undef, undef, undef, undef, undef, undef, undef, undef, undef, undef], []⟩ [.code (body_add L)]) (b₀.at a₀ (.inRegion ops₀ (i₀ :: rest₀) :: k₀) :: cs)) w := by
  lib_facts
  simp only [body_add, addFn, Option.getD_some]
  u_c stepG_seq (fs_rely hF2) hF
  u_cond true (fs_rely hF2) hF
  u_c stepG_seq (fs_rely hF2) hF
  u_c stepG_seq (fs_rely hF2) hF
  u_reg (fs_rely hF2) hF
  u_op (fs_rely hF2) hF
  u_op (fs_rely hF2) hF
  u_c stepG_region_end (fs_rely hF2) hF
  u_cond false (fs_rely hF2) hF
  u_c stepG_skip (fs_rely hF2) hF
  u_c stepG_seq (fs_rely hF2) hF
  u_reg (fs_rely hF2) hF
  refine Goes.stop (fun w₁ h₁ => ?_)
  replace hF := fs_rely hF2 hF h₁
  clear h₁
  refine ⟨rfl, _, stepG_mark0 .disable (by simp) rfl rfl (by k_ne) rfl H.f_disable (x_disable_n L) (x_disable_b L) (x_disable_x L) (x_disable_f L), mw_goes 40 ?_⟩
  walk_nrm
  u_c stepG_region_end (fs_rely hF2) hF
  u_reg (fs_rely hF2) hF
  u_defer (fs_rely hF2) hF
  u_c stepG_region_end (fs_rely hF2) hF
  u_c stepG_seq (fs_rely hF2) hF
  u_reg (fs_rely hF2) hF
  u_op (fs_rely hF2) hF
  u_c stepG_region_end (fs_rely hF2) hF
  u_c stepG_seq (fs_rely hF2) hF
  u_c stepG_seq (fs_rely hF2) hF
  u_reg (fs_rely hF2) hF
  u_bub (fs_rely hF2) hF
  u_c stepG_region_end (fs_rely hF2) hF
  u_cond false (fs_rely hF2) hF
  u_c stepG_skip (fs_rely hF2) hF
  u_c stepG_seq (fs_rely hF2) hF
  u_reg (fs_rely hF2) hF
  u_op (fs_rely hF2) hF
  u_op (fs_rely hF2) hF
  u_op (fs_rely hF2) hF
  u_op (fs_rely hF2) hF
  u_op (fs_rely hF2) hF
  u_op (fs_rely hF2) hF
  u_call H.f_uAdd (nm_uAdd L) uAddFn (fs_rely hF2) hF
  u_c stepG_seq (fs_rely hF2) hF
  u_reg (fs_rely hF2) hF
  u_op (fs_rely hF2) hF
  u_c stepG_region_end (fs_rely hF2) hF
  u_c stepG_seq (fs_rely hF2) hF
  u_reg (fs_rely hF2) hF
  u_op (fs_rely hF2) hF
  u_op (fs_rely hF2) hF
  u_op (fs_rely hF2) hF
  u_op (fs_rely hF2) hF
  refine Goes.stop (fun w₂ h₂ => ?_)
  replace hF := fs_rely hF2 hF h₂
  clear h₂
  refine ⟨rfl, fun v hv hw => ?_⟩
  rcases Nat.eq_zero_or_pos v with rfl | hvp
  · 
    replace hw : WgAt L.tWg Wg w₂ 0 0 := by simpa using hw
    have z : (((0 : Nat) : Int) + 1) * KK = KK := by simp
    rw [z]
    have e0 : IntKind.u64.wrap (0 + 4294967296) = KK := by decide
    refine ⟨_, (stepG_add_atomic rfl rfl (by k_ne) rfl H.f_addU64 (x_addU64_n L) (x_addU64_b L) (x_addU64_x L) .u64 (x_addU64_f L) rfl rfl hw.cellSt (hw.thaw 0)).trans (by rw [e0]; rfl), .inl (mw_goes 110 ?_)⟩
    replace hF : F (w₂.setCell (stA Wg) (.int .u64 KK)) ∧ WgLive L.tWg Wg (w₂.setCell (stA Wg) (.int .u64 KK)) := ⟨hF2 _ _ (rely_set hE _ _) hF.1, ⟨_, _, hw.setSt _⟩⟩
    clear hw
    simp only [KK] at hF ⊢
    walk_nrm
    u_op (fs_rely hF2) hF
    u_c stepG_region_end (fs_rely hF2) hF
    u_c stepG_ret' (fs_rely hF2) hF
    u_leave1 H.f_uAdd (fs_rely hF2) hF
    u_op (fs_rely hF2) hF
    u_c stepG_region_end (fs_rely hF2) hF
    u_c stepG_seq (fs_rely hF2) hF
    u_c stepG_seq (fs_rely hF2) hF
    u_reg (fs_rely hF2) hF
    u_op (fs_rely hF2) hF
    u_op (fs_rely hF2) hF
    u_op (fs_rely hF2) hF
    u_op (fs_rely hF2) hF
    u_skip (fs_rely hF2) hF
    u_skip (fs_rely hF2) hF
    u_op (fs_rely hF2) hF
    u_c stepG_region_end (fs_rely hF2) hF
    u_cond false (fs_rely hF2) hF
    u_c stepG_skip (fs_rely hF2) hF
    u_c stepG_seq (fs_rely hF2) hF
    u_reg (fs_rely hF2) hF
    u_op (fs_rely hF2) hF
    u_op (fs_rely hF2) hF
    u_op (fs_rely hF2) hF
    u_op (fs_rely hF2) hF
    u_c stepG_region_end (fs_rely hF2) hF
    u_c stepG_seq (fs_rely hF2) hF
    u_reg (fs_rely hF2) hF
    u_op (fs_rely hF2) hF
    u_op (fs_rely hF2) hF
    u_op (fs_rely hF2) hF
    u_op (fs_rely hF2) hF
    u_c stepG_region_end (fs_rely hF2) hF
    u_c stepG_seq (fs_rely hF2) hF
    u_c stepG_seq (fs_rely hF2) hF
    u_reg (fs_rely hF2) hF
    u_op (fs_rely hF2) hF
    u_op (fs_rely hF2) hF
    u_op (fs_rely hF2) hF
    u_op (fs_rely hF2) hF
    u_op (fs_rely hF2) hF
    u_op (fs_rely hF2) hF
    u_op (fs_rely hF2) hF
    u_op (fs_rely hF2) hF
    u_op (fs_rely hF2) hF
    u_op (fs_rely hF2) hF
    u_c stepG_region_end (fs_rely hF2) hF
    u_cond true (fs_rely hF2) hF
    u_reg (fs_rely hF2) hF
    u_op (fs_rely hF2) hF
    u_op (fs_rely hF2) hF
    u_op (fs_rely hF2) hF
    u_conv H.underlying_tPU32 H.room_tU32 (WgLive.cell1 hF.2).choose_spec (fs_rely hF2) hF
    
    refine Goes.stop (fun w₃ h₃ => ?_)
    replace hF := fs_rely hF2 hF h₃
    clear h₃
    refine ⟨rfl, _, stepG_markAt .read (by simp) rfl rfl (by k_ne) rfl H.f_raceRead (x_raceRead_n L) (x_raceRead_b L) (x_raceRead_x L) (x_raceRead_f L) (ad := ⟨Wg, 1, none⟩) (by simp [Act.eval]), mw_goes 110 ?_⟩
    walk_nrm
    u_c stepG_region_end (fs_rely hF2) hF
    u_c stepG_seq (fs_rely hF2) hF
    u_c stepG_seq (fs_rely hF2) hF
    u_reg (fs_rely hF2) hF
    u_op (fs_rely hF2) hF
    u_op (fs_rely hF2) hF
    u_c stepG_region_end (fs_rely hF2) hF
    u_cond false (fs_rely hF2) hF
    u_c stepG_skip (fs_rely hF2) hF
    u_c stepG_seq (fs_rely hF2) hF
    u_c stepG_seq (fs_rely hF2) hF
    u_reg (fs_rely hF2) hF
    u_op (fs_rely hF2) hF
    u_op (fs_rely hF2) hF
    u_op (fs_rely hF2) hF
    u_skip (fs_rely hF2) hF
    u_skip (fs_rely hF2) hF
    u_op (fs_rely hF2) hF
    u_op (fs_rely hF2) hF
    u_skip (fs_rely hF2) hF
    u_skip (fs_rely hF2) hF
    u_skip (fs_rely hF2) hF
    u_skip (fs_rely hF2) hF
    u_op (fs_rely hF2) hF
    u_c stepG_region_end (fs_rely hF2) hF
    u_cond false (fs_rely hF2) hF
    u_c stepG_skip (fs_rely hF2) hF
    u_c stepG_seq (fs_rely hF2) hF
    u_c stepG_seq (fs_rely hF2) hF
    u_reg (fs_rely hF2) hF
    u_op (fs_rely hF2) hF
    u_op (fs_rely hF2) hF
    u_op (fs_rely hF2) hF
    u_skip (fs_rely hF2) hF
    u_skip (fs_rely hF2) hF
    u_op (fs_rely hF2) hF
    u_c stepG_region_end (fs_rely hF2) hF
    u_cond true (fs_rely hF2) hF
    u_c stepG_ret' (fs_rely hF2) hF
    refine Goes.stop (fun w₃ h₃ => ?_)
    replace hF := fs_rely hF2 hF h₃
    clear h₃
    refine ⟨rfl, _, stepG_unwind_entry (v := .tuple #[]) (evs := #[mk .enable]) rfl H.f_enable (x_enable_n L) (x_enable_b L) (x_enable_x L) (x_enable_f L) (by simp [Extern.Race.none_]) (by simp [mk]) (by simp [mk]), mw_then (T := fun g w => g = G (b₀.at (a₀.put ((ops₀[i₀]?).bind (·.dst)) (.tuple #[])) (.inRegion ops₀ rest₀ :: k₀)) cs ∧ F w ∧ WgLive L.tWg Wg w) 1 ?_ (fun g w h => by obtain ⟨rfl, h1, h2⟩ := h; exact hT w h1 h2)⟩
    u_leave0 H.f_add (fs_rely hF2) hF
    exact Goes.stop (fun w₁ h₁ => ⟨rfl, fs_rely hF2 hF h₁⟩)
  · 
    obtain ⟨V, hV⟩ : ∃ V : Int, V = (v : Int) + 1 := ⟨_, rfl⟩
    obtain ⟨S, hS⟩ : ∃ S : Int, S = V * KK := ⟨_, rfl⟩
    have eS : IntKind.u64.wrap ((v : Int) * KK + 4294967296) = S := by rw [IntKind.wrap_u64, hS, hV]; simp only [KK]; omega
    rw [← hV, ← hS]
    have a1 : S / 4294967296 = V := by rw [hS]; simp only [KK]; omega
    have b1 : bits .and .u64 S 2147483648 = 0 := by rw [hS, hV]; have := st_flag (v + 1) 0 (by omega) (by omega); simpa [KK] using this
    have b2 : bits .and .u64 S 2147483647 = 0 := by rw [hS, hV]; have := st_waiters (v + 1) 0 (by omega) (by omega); simpa [KK] using this
    have c1 : IntKind.i32.wrap V = V := by rw [IntKind.wrap_i32]; omega
    have hV1 : 1 < V := by omega
    have hV2 : V < 2147483648 := by omega
    have q1 : (V == 1) = false := by simp; omega
    have q2 : decide (V = 1) = false := decide_eq_false (by omega)
    have q3 : decide (V < 0) = false := decide_eq_false (by omega)
    have q4 : decide (0 < V) = true := decide_eq_true (by omega)
    have q5 : (V == 0) = false := by simp; omega
    have q6 : decide (V = 0) = false := decide_eq_false (by omega)
    refine ⟨_, (stepG_add_atomic rfl rfl (by k_ne) rfl H.f_addU64 (x_addU64_n L) (x_addU64_b L) (x_addU64_x L) .u64 (x_addU64_f L) rfl rfl hw.cellSt (hw.thaw 0)).trans (by rw [eS]; rfl), .inr (mw_goes 110 ?_)⟩
    replace hF : F (w₂.setCell (stA Wg) (.int .u64 S)) ∧ WgLive L.tWg Wg (w₂.setCell (stA Wg) (.int .u64 S)) := ⟨hF2 _ _ (rely_set hE _ _) hF.1, ⟨_, _, hw.setSt _⟩⟩
    clear hw hS hV eS
    walk_nrm
    u_op (fs_rely hF2) hF
    u_c stepG_region_end (fs_rely hF2) hF
    u_c stepG_ret' (fs_rely hF2) hF
    u_leave1 H.f_uAdd (fs_rely hF2) hF
    u_op (fs_rely hF2) hF
    u_c stepG_region_end (fs_rely hF2) hF
    u_c stepG_seq (fs_rely hF2) hF
    u_c stepG_seq (fs_rely hF2) hF
    u_reg (fs_rely hF2) hF
    u_op (fs_rely hF2) hF
    u_op (fs_rely hF2) hF
    u_op (fs_rely hF2) hF
    u_op (fs_rely hF2) hF
    u_skip (fs_rely hF2) hF
    u_skip (fs_rely hF2) hF
    u_op (fs_rely hF2) hF
    u_c stepG_region_end (fs_rely hF2) hF
    u_cnd false (fs_rely hF2) hF
    u_c stepG_skip (fs_rely hF2) hF
    u_c stepG_seq (fs_rely hF2) hF
    u_reg (fs_rely hF2) hF
    u_op (fs_rely hF2) hF
    u_op (fs_rely hF2) hF
    u_op (fs_rely hF2) hF
    u_op (fs_rely hF2) hF
    u_c stepG_region_end (fs_rely hF2) hF
    u_c stepG_seq (fs_rely hF2) hF
    u_reg (fs_rely hF2) hF
    u_op (fs_rely hF2) hF
    u_op (fs_rely hF2) hF
    u_op (fs_rely hF2) hF
    u_op (fs_rely hF2) hF
    u_c stepG_region_end (fs_rely hF2) hF
    u_c stepG_seq (fs_rely hF2) hF
    u_c stepG_seq (fs_rely hF2) hF
    u_reg (fs_rely hF2) hF
    u_op (fs_rely hF2) hF
    u_op (fs_rely hF2) hF
    u_op (fs_rely hF2) hF
    u_op (fs_rely hF2) hF
    u_op (fs_rely hF2) hF
    u_op (fs_rely hF2) hF
    u_op (fs_rely hF2) hF
    u_op (fs_rely hF2) hF
    u_op (fs_rely hF2) hF
    u_op (fs_rely hF2) hF
    u_c stepG_region_end (fs_rely hF2) hF
    u_cnd false (fs_rely hF2) hF
    u_c stepG_skip (fs_rely hF2) hF
    u_c stepG_seq (fs_rely hF2) hF
    u_c stepG_seq (fs_rely hF2) hF
    u_reg (fs_rely hF2) hF
    u_op (fs_rely hF2) hF
    u_op (fs_rely hF2) hF
    u_c stepG_region_end (fs_rely hF2) hF
    u_cnd false (fs_rely hF2) hF
    u_c stepG_skip (fs_rely hF2) hF
    u_c stepG_seq (fs_rely hF2) hF
    u_c stepG_seq (fs_rely hF2) hF
    u_reg (fs_rely hF2) hF
    u_op (fs_rely hF2) hF
    u_op (fs_rely hF2) hF
    u_op (fs_rely hF2) hF
    u_skip (fs_rely hF2) hF
    u_skip (fs_rely hF2) hF
    u_op (fs_rely hF2) hF
    u_op (fs_rely hF2) hF
    u_skip (fs_rely hF2) hF
    u_skip (fs_rely hF2) hF
    u_skip (fs_rely hF2) hF
    u_skip (fs_rely hF2) hF
    u_op (fs_rely hF2) hF
    u_c stepG_region_end (fs_rely hF2) hF
    u_cnd false (fs_rely hF2) hF
    u_c stepG_skip (fs_rely hF2) hF
    u_c stepG_seq (fs_rely hF2) hF
    u_c stepG_seq (fs_rely hF2) hF
    u_reg (fs_rely hF2) hF
    u_op (fs_rely hF2) hF
    u_op (fs_rely hF2) hF
    u_op (fs_rely hF2) hF
    u_skip (fs_rely hF2) hF
    u_skip (fs_rely hF2) hF
    u_op (fs_rely hF2) hF
    u_c stepG_region_end (fs_rely hF2) hF
    u_cnd true (fs_rely hF2) hF
    u_c stepG_ret' (fs_rely hF2) hF
    refine Goes.stop (fun w₃ h₃ => ?_)
    replace hF := fs_rely hF2 hF h₃
    clear h₃
    refine ⟨rfl, _, stepG_unwind_entry (v := .tuple #[]) (evs := #[mk .enable]) rfl H.f_enable (x_enable_n L) (x_enable_b L) (x_enable_x L) (x_enable_f L) (by simp [Extern.Race.none_]) (by simp [mk]) (by simp [mk]), mw_then (T := fun g w => g = G (b₀.at (a₀.put ((ops₀[i₀]?).bind (·.dst)) (.tuple #[])) (.inRegion ops₀ rest₀ :: k₀)) cs ∧ F w ∧ WgLive L.tWg Wg w) 1 ?_ (fun g w h => by obtain ⟨rfl, h1, h2⟩ := h; exact hT w h1 h2)⟩
    u_leave0 H.f_add (fs_rely hF2) hF
    exact Goes.stop (fun w₁ h₁ => ⟨rfl, fs_rely hF2 hF h₁⟩)
end
end Go.Proofs.Ytjbpaejjpamcpaa.Sim
/- (*sync.WaitGroup).Wait by the starter, in company: to the loop's head; from there to where the join is seen. -/
namespace Go.Proofs.Ytjbpaejjpamcpaa.Sim
set_option linter.unusedSimpArgs false
set_option linter.unusedVariables false
open Go Go.Conc Go.ConcN.Gen Go.RowKit Go.Conc.Lib Go.ConcR.Gen
open Go.ConcN (WgLive st_flag st_waiters)
open Go.ConcN.Gen (WgLive.cell0 WgLive.cell1)
open Go.ConcR (KK WgAt stA smA rd wr mk DC0)

variable {L : WgLink}
/-- The head of Wait's loop. -/
def AnchS (L : WgLink) (Φ : Xs → (Nat → Prop) → World → Prop) (Wg : Nat) (c : Frame) (cs : List Frame) (x : Xs) : St := fun E g w =>
  ∃ T : Array Value, g = G ((base L.wait).at ⟨T, []⟩ [.code (L7 L), .inLoop (L7 L), .inBlock 0]) (c :: cs) ∧ T.size = 84 ∧ T[0]? = some (.pointer (some ⟨Wg, 0, none⟩)) ∧ Φ x E w ∧ WgLive L.tWg Wg w
section
variable {Wg j0 : Nat} {val : Nat → Value} {x : Xs} {E : Nat → Prop} {Anch : St} {Φ : Xs → (Nat → Prop) → World → Prop} {b₀ : Frame} {a₀ : Act} {ops₀ : Array Oper} {i₀ : Nat} {rest₀ : List Nat} {k₀ : List Item} {cs : List Frame}
set_option maxRecDepth 100000 in
set_option maxHeartbeats 8000000 in
theorem waitRoundS {P : Program} (H : WgLib P L) (hEF : ∀ w, Φ x E w → ¬ E Wg) (hF2 : ∀ w w', Rely E w w' → Φ x E w → Φ x E w')
    (hA : ∀ w g, Φ x E w → (∀ i c, x.cbs[i]? = some c → w.heap[c]? = some (full1 (val (j0 + i)))) →
      (∀ R : World → World → Prop, ∃ n, Goes P true R DC0 (fun g _ => g = G (b₀.at (a₀.put ((ops₀[i₀]?).bind (·.dst)) (.tuple #[])) (.inRegion ops₀ rest₀ :: k₀)) cs) n g w) → Anch (fun b => E b ∨ b ∈ x.cbs) g w)
    (g : Goroutine) (w : World) (h : AnchS L Φ Wg (b₀.at a₀ (.inRegion ops₀ (i₀ :: rest₀) :: k₀)) cs x E g w) :
    MW P L.tWg Wg x (JW1 P L.tWg Wg j0 val Anch (AnchS L Φ Wg (b₀.at a₀ (.inRegion ops₀ (i₀ :: rest₀) :: k₀)) cs) x) E g w := by
  lib_facts
  obtain ⟨T, rfl, hT84, t0, hF⟩ := h
  obtain ⟨v0, v1, v2, v3, v4, v5, v6, v7, v8, v9, v10, v11, v12, v13, v14, v15, v16, v17, v18, v19, v20, v21, v22, v23, v24, v25, v26, v27, v28, v29, v30, v31, v32, v33, v34, v35, v36, v37, v38, v39, v40, v41, v42, v43, v44, v45, v46, v47, v48, v49, v50, v51, v52, v53, v54, v55, v56, v57, v58, v59, v60, v61, v62, v63, v64, v65, v66, v67, v68, v69, v70, v71, v72, v73, v74, v75, v76, v77, v78, v79, v80, v81, v82, v83, rfl⟩ := array84 T hT84
  simp only [List.getElem?_toArray, List.getElem?_cons_zero, Option.some.injEq] at t0
  subst t0
  refine mw_goes 30 ?_
  simp only [L7, body_wait, waitFn, Option.getD_some]
  u_c stepG_block (fs_rely hF2) hF
  u_c stepG_seq (fs_rely hF2) hF
  u_reg (fs_rely hF2) hF
  u_op (fs_rely hF2) hF
  u_op (fs_rely hF2) hF
  u_op (fs_rely hF2) hF
  u_call H.f_uLoad (nm_uLoad L) uLoadFn (fs_rely hF2) hF
  u_c stepG_seq (fs_rely hF2) hF
  u_reg (fs_rely hF2) hF
  u_op (fs_rely hF2) hF
  u_c stepG_region_end (fs_rely hF2) hF
  u_c stepG_seq (fs_rely hF2) hF
  u_reg (fs_rely hF2) hF
  u_op (fs_rely hF2) hF
  u_op (fs_rely hF2) hF
  u_op (fs_rely hF2) hF
  refine Goes.stop (fun w₁ h₁ => ?_)
  replace hF := fs_rely hF2 hF h₁
  clear h₁
  refine ⟨rfl, fun v hv hw => ?_⟩
  rcases Nat.eq_zero_or_pos v with rfl | hvp
  · 
    replace hw : WgAt L.tWg Wg w₁ 0 0 := by simpa using hw
    refine ⟨_, stepG_load_atomic (v := 0) rfl rfl (by k_ne) rfl H.f_loadU64 (x_loadU64_n L) (x_loadU64_b L) (x_loadU64_x L) .u64 (x_loadU64_f L) rfl hw.cellSt, fun _ => mw_goes 50 ?_, fun h => absurd rfl h⟩
    clear hw
    walk_nrm
    u_op (fs_rely hF2) hF
    u_c stepG_region_end (fs_rely hF2) hF
    u_c stepG_ret' (fs_rely hF2) hF
    u_leave1 H.f_uLoad (fs_rely hF2) hF
    u_op (fs_rely hF2) hF
    u_c stepG_region_end (fs_rely hF2) hF
    u_c stepG_seq (fs_rely hF2) hF
    u_reg (fs_rely hF2) hF
    u_op (fs_rely hF2) hF
    u_op (fs_rely hF2) hF
    u_op (fs_rely hF2) hF
    u_op (fs_rely hF2) hF
    u_c stepG_region_end (fs_rely hF2) hF
    u_c stepG_seq (fs_rely hF2) hF
    u_reg (fs_rely hF2) hF
    u_op (fs_rely hF2) hF
    u_op (fs_rely hF2) hF
    u_op (fs_rely hF2) hF
    u_op (fs_rely hF2) hF
    u_c stepG_region_end (fs_rely hF2) hF
    u_c stepG_seq (fs_rely hF2) hF
    u_c stepG_seq (fs_rely hF2) hF
    u_reg (fs_rely hF2) hF
    u_op (fs_rely hF2) hF
    u_op (fs_rely hF2) hF
    u_c stepG_region_end (fs_rely hF2) hF
    u_cond true (fs_rely hF2) hF
    u_c stepG_seq (fs_rely hF2) hF
    u_cond true (fs_rely hF2) hF
    u_c stepG_seq (fs_rely hF2) hF
    u_reg (fs_rely hF2) hF
    refine Goes.stop (fun w₅ h₅ => ?_)
    replace hF := fs_rely hF2 hF h₅
    clear h₅
    refine ⟨rfl, _, stepG_mark0 .enable (by simp) rfl rfl (by k_ne) rfl H.f_enable (x_enable_n L) (x_enable_b L) (x_enable_x L) (x_enable_f L), mw_goes 12 ?_⟩
    walk_nrm
    u_c stepG_region_end (fs_rely hF2) hF
    u_reg (fs_rely hF2) hF
    u_op (fs_rely hF2) hF
    u_conv H.underlying_tWgP H.room_tWg (WgLive.cell0 hF.2).choose_spec (fs_rely hF2) hF
    refine Goes.stop (fun w₆ h₆ => ?_)
    replace hF := fs_rely hF2 hF h₆
    clear h₆
    refine ⟨rfl, _, stepG_markAt .acquire (by simp) rfl rfl (by k_ne) rfl H.f_acquire (x_acquire_n L) (x_acquire_b L) (x_acquire_x L) (x_acquire_f L) (by simp [Act.eval, stA]), fun hch => hA _ _ hF.1 hch (fun R => ⟨30, ?_⟩)⟩
    clear hF hch
    have hF : True := trivial
    walk_nrm
    u_c stepG_region_end (fun h _ => h) hF
    u_c stepG_seq (fun h _ => h) hF
    u_c stepG_seq (fun h _ => h) hF
    u_reg (fun h _ => h) hF
    u_op (fun h _ => h) hF
    u_op (fun h _ => h) hF
    u_op (fun h _ => h) hF
    u_op (fun h _ => h) hF
    u_op (fun h _ => h) hF
    u_op (fun h _ => h) hF
    u_op (fun h _ => h) hF
    u_op (fun h _ => h) hF
    u_skip (fun h _ => h) hF
    u_skip (fun h _ => h) hF
    u_op (fun h _ => h) hF
    u_c stepG_region_end (fun h _ => h) hF
    u_cond false (fun h _ => h) hF
    u_c stepG_skip (fun h _ => h) hF
    u_c stepG_ret' (fun h _ => h) hF
    u_leave0 H.f_wait (fun h _ => h) hF
    exact Goes.stop (fun _ _ => rfl)
  · 
    obtain ⟨S, hS⟩ : ∃ S : Int, (v : Int) * KK = S := ⟨_, rfl⟩
    have a1 : S / 4294967296 = (v : Int) := by rw [← hS]; simp only [KK]; omega
    have b1 : bits .and .u64 S 2147483648 = 0 := by rw [← hS]; have := st_flag v 0 (by omega) (by omega); simpa [KK] using this
    have b2 : bits .and .u64 S 2147483647 = 0 := by rw [← hS]; have := st_waiters v 0 (by omega) (by omega); simpa [KK] using this
    have c1 : IntKind.i32.wrap (v : Int) = (v : Int) := by rw [IntKind.wrap_i32]; omega
    have w1 : IntKind.u64.wrap (S + 1) = S + 1 := by rw [IntKind.wrap_u64, ← hS]; simp only [KK]; omega
    have q3 : decide ((v : Int) < 0) = false := decide_eq_false (by omega)
    have q4 : decide (0 < (v : Int)) = true := decide_eq_true (by omega)
    have q5 : ((v : Int) == 0) = false := by simp; omega
    have q6 : decide ((v : Int) = 0) = false := decide_eq_false (by omega)
    rw [hS] at hw
    refine ⟨_, stepG_load_atomic (v := S) rfl rfl (by k_ne) rfl H.f_loadU64 (x_loadU64_n L) (x_loadU64_b L) (x_loadU64_x L) .u64 (x_loadU64_f L) rfl hw.cellSt, fun h0 => absurd h0 (by omega), fun _ => mw_goes 60 ?_⟩
    clear hw
    walk_nrm
    u_op (fs_rely hF2) hF
    u_c stepG_region_end (fs_rely hF2) hF
    u_c stepG_ret' (fs_rely hF2) hF
    u_leave1 H.f_uLoad (fs_rely hF2) hF
    u_op (fs_rely hF2) hF
    u_c stepG_region_end (fs_rely hF2) hF
    u_c stepG_seq (fs_rely hF2) hF
    u_reg (fs_rely hF2) hF
    u_op (fs_rely hF2) hF
    u_op (fs_rely hF2) hF
    u_op (fs_rely hF2) hF
    u_op (fs_rely hF2) hF
    u_c stepG_region_end (fs_rely hF2) hF
    u_c stepG_seq (fs_rely hF2) hF
    u_reg (fs_rely hF2) hF
    u_op (fs_rely hF2) hF
    u_op (fs_rely hF2) hF
    u_op (fs_rely hF2) hF
    u_op (fs_rely hF2) hF
    u_c stepG_region_end (fs_rely hF2) hF
    u_c stepG_seq (fs_rely hF2) hF
    u_c stepG_seq (fs_rely hF2) hF
    u_reg (fs_rely hF2) hF
    u_op (fs_rely hF2) hF
    u_op (fs_rely hF2) hF
    u_c stepG_region_end (fs_rely hF2) hF
    u_cnd false (fs_rely hF2) hF
    u_c stepG_skip (fs_rely hF2) hF
    u_c stepG_seq (fs_rely hF2) hF
    u_reg (fs_rely hF2) hF
    u_op (fs_rely hF2) hF
    u_op (fs_rely hF2) hF
    u_op (fs_rely hF2) hF
    u_op (fs_rely hF2) hF
    u_op (fs_rely hF2) hF
    u_op (fs_rely hF2) hF
    u_call H.f_uCas (nm_uCas L) uCasFn (fs_rely hF2) hF
    u_c stepG_seq (fs_rely hF2) hF
    u_reg (fs_rely hF2) hF
    u_op (fs_rely hF2) hF
    u_c stepG_region_end (fs_rely hF2) hF
    u_c stepG_seq (fs_rely hF2) hF
    u_reg (fs_rely hF2) hF
    u_op (fs_rely hF2) hF
    u_op (fs_rely hF2) hF
    u_op (fs_rely hF2) hF
    u_op (fs_rely hF2) hF
    u_op (fs_rely hF2) hF
    refine Goes.stop (fun w₂ h₂ => ?_)
    replace hF := fs_rely hF2 hF h₂
    clear h₂
    refine ⟨rfl, fun v' hv' hw => ⟨fun e => ?_, fun e => ?_⟩⟩
    · 
      subst e
      rw [hS] at hw ⊢
      refine ⟨_, (stepG_cas_hit (v := S) (n := S + 1) rfl rfl (by k_ne) rfl H.f_casU64 (x_casU64_n L) (x_casU64_b L) (x_casU64_x L) .u64 (x_casU64_f L) rfl rfl rfl hw.cellSt (hw.thaw 0)).trans (by rfl), mw_goes 70 ?_⟩
      replace hF : Φ x E (w₂.setCell (stA Wg) (.int .u64 (S + 1))) ∧ WgLive L.tWg Wg (w₂.setCell (stA Wg) (.int .u64 (S + 1))) := ⟨hF2 _ _ (rely_set (hEF _ hF.1) _ _) hF.1, ⟨_, _, hw.setSt _⟩⟩
      clear hw
      walk_nrm
      u_op (fs_rely hF2) hF
      u_c stepG_region_end (fs_rely hF2) hF
      u_c stepG_ret' (fs_rely hF2) hF
      u_leave1 H.f_uCas (fs_rely hF2) hF
      u_c stepG_region_end (fs_rely hF2) hF
      u_cond true (fs_rely hF2) hF
      u_c stepG_seq (fs_rely hF2) hF
      u_c stepG_seq (fs_rely hF2) hF
      u_reg (fs_rely hF2) hF
      u_op (fs_rely hF2) hF
      u_op (fs_rely hF2) hF
      u_op (fs_rely hF2) hF
      u_op (fs_rely hF2) hF
      u_c stepG_region_end (fs_rely hF2) hF
      u_cond true (fs_rely hF2) hF
      u_reg (fs_rely hF2) hF
      u_op (fs_rely hF2) hF
      u_op (fs_rely hF2) hF
      u_op (fs_rely hF2) hF
      u_conv H.underlying_tPU32 H.room_tU32 (WgLive.cell1 hF.2).choose_spec (fs_rely hF2) hF
      refine Goes.stop (fun w₃ h₃ => ?_)
      replace hF := fs_rely hF2 hF h₃
      clear h₃
      refine ⟨rfl, _, stepG_markAt .write (by simp) rfl rfl (by k_ne) rfl H.f_raceWrite (x_raceWrite_n L) (x_raceWrite_b L) (x_raceWrite_x L) (x_raceWrite_f L) (ad := ⟨Wg, 1, none⟩) (by simp [Act.eval]), mw_goes 70 ?_⟩
      u_c stepG_region_end (fs_rely hF2) hF
      u_c stepG_seq (fs_rely hF2) hF
      u_reg (fs_rely hF2) hF
      u_op (fs_rely hF2) hF
      u_c stepG_region_end (fs_rely hF2) hF
      u_c stepG_seq (fs_rely hF2) hF
      u_c stepG_seq (fs_rely hF2) hF
      u_reg (fs_rely hF2) hF
      u_op (fs_rely hF2) hF
      u_op (fs_rely hF2) hF
      u_op (fs_rely hF2) hF
      u_op (fs_rely hF2) hF
      u_skip (fs_rely hF2) hF
      u_op (fs_rely hF2) hF
      u_c stepG_region_end (fs_rely hF2) hF
      u_cond false (fs_rely hF2) hF
      u_c stepG_skip (fs_rely hF2) hF
      u_c stepG_seq (fs_rely hF2) hF
      u_reg (fs_rely hF2) hF
      u_op (fs_rely hF2) hF
      u_op (fs_rely hF2) hF
      u_op (fs_rely hF2) hF
      u_op (fs_rely hF2) hF
      refine Goes.stop (fun w₃ h₃ => ?_)
      replace hF := fs_rely hF2 hF h₃
      clear h₃
      refine ⟨rfl, rfl, fun ⟨st, hw⟩ => stepG_semacquire_wait rfl rfl rfl H.f_semacquire (x_semacquire_n L) (x_semacquire_b L) (x_semacquire_x L) (x_semacquire_f L) (by simp [Act.eval, smA]) hw.cellSm, fun hf => ?_⟩
      refine ⟨_, (stepG_semacquire (n := 1) rfl rfl (by k_ne) rfl H.f_semacquire (x_semacquire_n L) (x_semacquire_b L) (x_semacquire_x L) (x_semacquire_f L) (by simp [Act.eval, smA]) hf.cellSm (by k_ne) (hf.thaw 1)).trans (by rfl), mw_goes 30 ?_⟩
      replace hF : Φ x E (w₃.setCell (smA Wg) (.int .u32 0)) ∧ WgLive L.tWg Wg (w₃.setCell (smA Wg) (.int .u32 0)) := ⟨hF2 _ _ (rely_set (hEF _ hF.1) _ _) hF.1, ⟨_, _, hf.setSm 0⟩⟩
      clear hf
      walk_nrm
      u_c stepG_region_end (fs_rely hF2) hF
      u_c stepG_seq (fs_rely hF2) hF
      u_reg (fs_rely hF2) hF
      u_op (fs_rely hF2) hF
      u_op (fs_rely hF2) hF
      u_op (fs_rely hF2) hF
      u_call H.f_uLoad (nm_uLoad L) uLoadFn (fs_rely hF2) hF
      u_c stepG_seq (fs_rely hF2) hF
      u_reg (fs_rely hF2) hF
      u_op (fs_rely hF2) hF
      u_c stepG_region_end (fs_rely hF2) hF
      u_c stepG_seq (fs_rely hF2) hF
      u_reg (fs_rely hF2) hF
      u_op (fs_rely hF2) hF
      u_op (fs_rely hF2) hF
      u_op (fs_rely hF2) hF
      refine Goes.stop (fun w₄ h₄ => ?_)
      replace hF := fs_rely hF2 hF h₄
      clear h₄
      refine ⟨rfl, fun hw => ⟨_, stepG_load_atomic (v := 0) rfl rfl (by k_ne) rfl H.f_loadU64 (x_loadU64_n L) (x_loadU64_b L) (x_loadU64_x L) .u64 (x_loadU64_f L) rfl hw.cellSt, mw_goes 30 ?_⟩⟩
      clear hw
      walk_nrm
      u_op (fs_rely hF2) hF
      u_c stepG_region_end (fs_rely hF2) hF
      u_c stepG_ret' (fs_rely hF2) hF
      u_leave1 H.f_uLoad (fs_rely hF2) hF
      u_op (fs_rely hF2) hF
      u_op (fs_rely hF2) hF
      u_c stepG_region_end (fs_rely hF2) hF
      u_c stepG_seq (fs_rely hF2) hF
      u_cond true (fs_rely hF2) hF
      u_c stepG_seq (fs_rely hF2) hF
      u_reg (fs_rely hF2) hF
      refine Goes.stop (fun w₅ h₅ => ?_)
      replace hF := fs_rely hF2 hF h₅
      clear h₅
      refine ⟨rfl, _, stepG_mark0 .enable (by simp) rfl rfl (by k_ne) rfl H.f_enable (x_enable_n L) (x_enable_b L) (x_enable_x L) (x_enable_f L), mw_goes 12 ?_⟩
      walk_nrm
      u_c stepG_region_end (fs_rely hF2) hF
      u_reg (fs_rely hF2) hF
      u_op (fs_rely hF2) hF
      u_conv H.underlying_tWgP H.room_tWg (WgLive.cell0 hF.2).choose_spec (fs_rely hF2) hF
      refine Goes.stop (fun w₆ h₆ => ?_)
      replace hF := fs_rely hF2 hF h₆
      clear h₆
      refine ⟨rfl, _, stepG_markAt .acquire (by simp) rfl rfl (by k_ne) rfl H.f_acquire (x_acquire_n L) (x_acquire_b L) (x_acquire_x L) (x_acquire_f L) (by simp [Act.eval, stA]), fun hch => hA _ _ hF.1 hch (fun R => ⟨30, ?_⟩)⟩
      clear hF hch
      have hF : True := trivial
      walk_nrm
      u_c stepG_region_end (fun h _ => h) hF
      u_c stepG_seq (fun h _ => h) hF
      u_c stepG_seq (fun h _ => h) hF
      u_reg (fun h _ => h) hF
      u_op (fun h _ => h) hF
      u_c stepG_region_end (fun h _ => h) hF
      u_cond false (fun h _ => h) hF
      u_c stepG_skip (fun h _ => h) hF
      u_c stepG_ret' (fun h _ => h) hF
      u_leave0 H.f_wait (fun h _ => h) hF
      exact Goes.stop (fun _ _ => rfl)
    · 
      refine ⟨_, stepG_cas_miss (v := (v' : Int) * KK) (old := S) (n := S + 1) rfl rfl (by k_ne) rfl H.f_casU64 (x_casU64_n L) (x_casU64_b L) (x_casU64_x L) .u64 (x_casU64_f L) rfl rfl rfl hw.cellSt (hw.thaw 0) (by rw [← hS]; simp only [KK]; omega), mw_goes 20 ?_⟩
      clear hw
      walk_nrm
      u_op (fs_rely hF2) hF
      u_c stepG_region_end (fs_rely hF2) hF
      u_c stepG_ret' (fs_rely hF2) hF
      u_leave1 H.f_uCas (fs_rely hF2) hF
      u_c stepG_region_end (fs_rely hF2) hF
      u_cond false (fs_rely hF2) hF
      u_c stepG_skip (fs_rely hF2) hF
      u_c stepG_inBlock (fs_rely hF2) hF
      u_c stepG_inLoop (fs_rely hF2) hF
      refine Goes.stop (fun w₃ h₃ => ?_)
      replace hF := fs_rely hF2 hF h₃
      exact ⟨_, rfl, by simp, by simp, hF⟩

set_option maxRecDepth 100000 in
theorem waitStartS {P : Program} (H : WgLib P L) (hF2 : ∀ w w', Rely E w w' → Φ x E w → Φ x E w') (w : World) (hF : Φ x E w ∧ WgLive L.tWg Wg w) :
    Goes P true (RI L.tWg Wg x.Z x.W E) DC0 (JKd P L.tWg Wg (AnchS L Φ Wg (b₀.at a₀ (.inRegion ops₀ (i₀ :: rest₀) :: k₀)) cs) x E) 3
      (G ((base L.wait).at ⟨#[.pointer (some ⟨Wg, 0, none⟩), undef, undef, undef, undef, undef, undef, undef, undef, undef, undef, undef, undef, undef, undef, undef, undef, undef, undef, undef, undef, undef, undef, undef, undef, undef, undef, undef, undef, undef, undef, undef, undef, undef, undef, undef, undef, undef, undef, undef, undef, undef, undef, undef, undef, undef, undef, undef, undef, undef, undef, undef, undef, undef, undef, undef, undef, undef, undef, undef, undef, undef, undef, undef, undef, undef, undef, undef, undef, undef, undef, undef, undef, undef, undef, undef, undef, undef, undef, undef, undef, undef, undef, undef], []⟩ [.code (body_wait L)]) (b₀.at a₀ (.inRegion ops₀ (i₀ :: rest₀) :: k₀) :: cs)) w := by
  lib_facts
  simp only [body_wait, waitFn, Option.getD_some]
  u_c stepG_seq (fs_rely hF2) hF
  u_cond true (fs_rely hF2) hF
  u_reg (fs_rely hF2) hF
  refine Goes.stop (fun w₁ h₁ => ?_)
  replace hF := fs_rely hF2 hF h₁
  clear h₁
  refine ⟨rfl, _, stepG_mark0 .disable (by simp) rfl rfl (by k_ne) rfl H.f_disable (x_disable_n L) (x_disable_b L) (x_disable_x L) (x_disable_f L), mw_goes 3 ?_⟩
  walk_nrm
  u_c stepG_region_end (fs_rely hF2) hF
  u_c stepG_block (fs_rely hF2) hF
  u_c stepG_loop (fs_rely hF2) hF
  exact Goes.stop (fun w₂ h₂ => ⟨_, rfl, by simp, by simp, fs_rely hF2 hF h₂⟩)
end
end Go.Proofs.Ytjbpaejjpamcpaa.Sim
