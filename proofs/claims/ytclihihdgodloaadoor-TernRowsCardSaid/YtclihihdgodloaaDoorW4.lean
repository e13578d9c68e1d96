/- Texts of this seat, one behind the other: T13 T14 T15 N16. -/
import Derived.Test.YtclihihdgodloaaDoorW3
import Derived.Test.YtclihihdgodloaaDoorRows
import Derived.Test.YtclihihdgodloaaDoorTie
import Derived.ProofKit
import Derived.LaidMore
import Derived.OpenShut
import Derived.Stop.Joined
section
/- trestlelaw08: works, names. -/
set_option linter.unusedVariables false
set_option linter.unusedSimpArgs false
namespace Go.Proofs.YtclihihdgodloaaDoor
namespace SC
open Go.Proofs
def cT : Circ := ⟨3, [], [(2, 3, 0), (4, 4, 0)], [], [], [], [], [], [(6, 3, 5)], [], []⟩
theorem cT_sizes : sizesM cT = 0 := by
  unfold sizesM
  rw [if_neg (by simp [cT]), if_neg]
  simp [cT, Circ.lens, sumW, sumL]; decide
theorem cT_defs : definesM cT (T0 cT) = ((0, 0), [(0, 0), (2, 0), (2, 1), (3, 0)]) := by decide
theorem cT_tab : tabM cT = [(0, 0), (2, 0), (2, 1), (3, 0)] := by unfold tabM; rw [cT_defs]
theorem cT_uses : usesM cT (tabM cT) = (0, 0) := by rw [cT_tab]; decide
theorem cT_below : gateB (tabM cT) cT 0 = [] := by rw [cT_tab]; decide
theorem cT_all : All 1 (gateB (tabM cT) cT) [0] := by
  have h0 : ∀ x, rg 1 x → x = 0 := fun x hx => by unfold rg at hx; omega
  refine ⟨?_, fun x hx => hx.new (by rw [h0 x hx.rg]; simp)⟩
  have : Told 1 (gateB (tabM cT) cT) ([] ++ [0]) := .snoc .nil ⟨by unfold rg; omega, by simp, by rw [cT_below]; simp⟩ fun y hy => by rw [h0 y hy.rg]; exact Int.le_refl _
  exact this
theorem cT_look : (lookM cT).2 = 0 := by
  have hc : cycM cT.ands.length (gateB (tabM cT) cT) = -1 := cycM_eq ⟨[0], cT_all, .inl ⟨rfl, rfl⟩⟩
  unfold lookM
  rw [cT_sizes, cT_defs, cT_uses, hc]
  simp [cT, goSym, goCom]
theorem cT_ord : ordM cT = [0] := ordM_eq cT_all
theorem cT_sane : cT.Sane := ⟨by simp [cT], by simp [cT], by simp [cT], by simp [cT], by simp [cT], by simp [cT]⟩
theorem cT_okay : cT.Okay := ⟨by simp [cT, Circ.lens], by simp [cT], (by intro x hx; simp [cT] at hx; rcases hx with rfl | rfl <;> simp [TriFits, fit64, fits]), (by intro x hx; simp [cT] at hx; subst hx; simp [TriFits, fit64, fits]), by simp [cT]⟩
theorem cT_fits : cT.Fits := ⟨by simp [cT], by simp [cT], by simp [cT], by simp [cT], by simp [cT], by simp [cT], by simp [cT], by simp [cT], by simp [cT], by simp [cT], by simp [cT]⟩
def hTn (a b : Nat) : Hd := fun | 2 => (some ⟨a, 0, none⟩, 2) | 8 => (some ⟨b, 0, none⟩, 1) | _ => (none, 0)
theorem cT_in {w : World} {a b : Nat} (ha : Blk w a 59 [nu 2, nu 3, nu 0, nu 4, nu 4, nu 0]) (hb : Blk w b 61 [nu 6, nu 3, nu 5]) : CirIn w cT (hTn a b) hNil :=
  ⟨⟨RowA.emp, RowA.blk (l := [(2, 3, 0), (4, 4, 0)]) tlen ha, RowA.emp, RowA.emp, RowA.emp, fun k hk => absurd hk (Nat.not_lt_zero _), fun k hk => absurd hk (Nat.not_lt_zero _), RowA.emp, RowA.blk (l := [(6, 3, 5)]) tlen hb, RowA.emp, RowA.emp⟩, cT_sane, cT_okay, cT_fits⟩
theorem cT_val (s r : List Int) : valT cT s r = tAn cT [0] (tLt cT s (tIn cT r 0) 2) 1 := by
  unfold valT
  rw [cT_ord]
  rfl
theorem cT_set (a : List Int) : setT cT a = joinT a (nxtT cT (tAn cT [0] (tLt cT a (tIn cT [] 0) 2) 1)) := by
  unfold setT
  rw [cT_val]
  rfl
theorem cT_st0 : stT cT 0 = [0, 0] := by decide
theorem cT_st1 : stT cT 1 = [2, 0] := by
  show setT cT (stT cT 0) = _
  rw [cT_st0, cT_set]
  decide
theorem cT_fix : setT cT [2, 0] = [2, 0] := by rw [cT_set]; decide
theorem cT_nS : nS cT = 1 := by
  rcases Nat.lt_trichotomy (nS cT) 1 with h | h | h
  · have h0 : nS cT = 0 := by omega
    have := nS_fix cT
    rw [h0] at this
    have h1 : setT cT (stT cT 0) = stT cT 1 := rfl
    rw [h1, cT_st0, cT_st1] at this
    exact absurd this (by decide)
  · exact h
  · have := nS_not cT h
    rw [cT_st1] at this
    exact absurd cT_fix this
theorem cT_sM : sM cT = [2, 0] := by
  have : sM cT = stT cT (nS cT) := if_pos cT_look
  rw [this, cT_nS, cT_st1]
theorem cT_sN : sN cT = 1 := by
  have : sN cT = (nS cT : Int) := if_pos cT_look
  rw [this, cT_nS]
  rfl
theorem cT_tw : twE cT [1, 1] [] = 0 := twE_ok cT_look (by decide) (by decide)
theorem cT_lfE : lfE cT [1, 1] [] [7] = 0 := lfE_ok cT_tw (by decide) (by decide) (by rw [cT_val]; decide)
theorem cT_lfM : lfM cT [1, 1] [] [7] = [2, 1] := by
  have h0 : lfM cT [1, 1] [] [7] = lfT cT [1, 1] [] [7] 2 := if_pos cT_lfE
  have h1 : lfT cT [1, 1] [] [7] 1 = [2, 1] := by
    show (if onesT (valT cT ([1, 1].set 0 2) []) [7] = true then [1, 1].set 0 2 else [1, 1]) = _
    rw [cT_val]
    decide
  have h2 : lfT cT [1, 1] [] [7] 2 = [2, 1] := by
    show (if onesT (valT cT ((lfT cT [1, 1] [] [7] 1).set 1 2) []) [7] = true then (lfT cT [1, 1] [] [7] 1).set 1 2 else lfT cT [1, 1] [] [7] 1) = _
    rw [h1, cT_val]
    decide
  rw [h0, h2]
attribute [local irreducible] WC WL WX WS WO OX Does DoesU Enters CV Pure thenQ blockQ retQ Wants retQC GC GL GS GX RdB thenG blockG retG Rd At CVN CVM
set_option maxRecDepth 100000
set_option maxHeartbeats 1600000 in
theorem works8_cv {w : World} (G : TabG w) : CVN Tryd.prog 18 [] w fun v N => N = [] ∧ v = .bool true := by
  have hS : ∀ Γ a b, In Γ (.old w none_) → In Γ (.box a 59 [nu 2, nu 3, nu 0, nu 4, nu 4, nu 0]) → In Γ (.box b 61 [nu 6, nu 3, nu 5]) → ∀ w', Mem w' Γ → CVN Tryd.prog 19 [.agg (ccells cT (hTn a b)).toArray] w' fun v N => ∃ A k, v = .tuple #[.slice A 2 k, nu 1, nu 0] ∧ N = [.vec icell 1 3 A k [2, 0]] := fun Γ a b ho h1 h2 w' M => by
    have := SettleP_cv (G.chg (ho.old M)) (cT_in (h1.box M) (h2.box M))
    unfold SetV at this
    rwa [cT_sM, cT_sN, cT_look] at this
  have hL : ∀ Γ a b x y, In Γ (.old w none_) → In Γ (.box a 59 [nu 2, nu 3, nu 0, nu 4, nu 4, nu 0]) → In Γ (.box b 61 [nu 6, nu 3, nu 5]) → In Γ (.box x 3 [nu 1, nu 1]) → In Γ (.box y 3 [nu 7]) → ∀ w', Mem w' Γ → CVN Tryd.prog 12 [.agg (ccells cT (hTn a b)).toArray, .slice (some ⟨x, 0, none⟩) 2 2, .slice none 0 0, .slice (some ⟨y, 0, none⟩) 1 1] w' fun v N => ∃ A k, v = .tuple #[.slice A 2 k, nu 0] ∧ N = [.vec icell 1 3 A k [2, 1]] := fun Γ a b x y ho h1 h2 h3 h4 w' M => by
    have := LiftP_cv (s := [1, 1]) (r := []) (ls := [7]) (S := some ⟨x, 0, none⟩) (T := none) (L := some ⟨y, 0, none⟩) (k2 := 2) (k3 := 0) (k4 := 1) (cT_in (h1.box M) (h2.box M)) (RowA.blk (l := [1, 1]) ilen (h3.box M)) RowA.emp (RowA.blk (l := [7]) ilen (h4.box M)) (by decide) (by decide) (by decide) (G.chg (ho.old M))
    unfold IntsE at this
    rwa [cT_lfM, cT_lfE] at this
  refine CVN.enter 70 [0] Tryd.func18 rfl rfl rfl (by decide) rfl ?_
  repeat' (first
|(apply G_cmpT;eq_refl;eq_refl;(exact rfl))
|(apply G_ix;eq_refl;eq_refl;(first|(apply Rd.own;(repeat first|exact In.here|apply In.there|apply In.skip);infer_instance)|(apply Rd.old;(repeat first|exact In.here|apply In.there|apply In.skip);assumption)|(apply Rd.oldR;(repeat first|exact In.here|apply In.there|apply In.skip);assumption)|exact Rd.nil|assumption);eq_refl;(focus simp);(first|(exact (show (0 : Int) < ((2 : Nat) : Int) by decide))|(exact (show (1 : Int) < ((2 : Nat) : Int) by decide))))
|(apply G_rd;eq_refl;(first|(apply Rd.own;(repeat first|exact In.here|apply In.there|apply In.skip);infer_instance)|(apply Rd.old;(repeat first|exact In.here|apply In.there|apply In.skip);assumption)|(apply Rd.oldR;(repeat first|exact In.here|apply In.there|apply In.skip);assumption)|exact Rd.nil|assumption);(case ih => infer_instance);(focus simp);(first|(exact (show (0 : Int) < ((2 : Nat) : Int) by decide))|(exact (show (1 : Int) < ((2 : Nat) : Int) by decide)));eq_refl)
|(apply G_call;eq_refl;eq_refl;(apply hS;(repeat first|exact In.here|apply In.there|apply In.skip);(repeat first|exact In.here|apply In.there|apply In.skip);(repeat first|exact In.here|apply In.there|apply In.skip));rintro _ _ ⟨A1, k1, rfl, rfl⟩)
|(apply G_call;eq_refl;eq_refl;(apply hL;(repeat first|exact In.here|apply In.there|apply In.skip);(repeat first|exact In.here|apply In.there|apply In.skip);(repeat first|exact In.here|apply In.there|apply In.skip);(repeat first|exact In.here|apply In.there|apply In.skip);(repeat first|exact In.here|apply In.there|apply In.skip));rintro _ _ ⟨A2, k2, rfl, rfl⟩)
|(apply GC_seqK;intro K hK)
|(apply hK;clear hK K)
|(apply GC_region)
|(apply GL_nil)
|(apply thenG_normal)
|(apply GC_ret)
|(apply retG1;eq_refl)
|(apply GL_on;eq_refl;eq_refl)
|(apply G_pv;eq_refl;first|exact trivial|omega)
|(apply G_ldW;eq_refl;(repeat first|exact In.here|apply In.there|apply In.skip);eq_refl)
|(apply G_len;eq_refl)
|(apply G_alloc;eq_refl;intro _)
|(apply G_stW;(first|exact wr_p|kernel_rfl);eq_refl;eq_refl;eq_refl;eq_refl;(repeat first|exact Upd.here|apply Upd.there|apply Upd.skip);eq_refl)
|(apply GX_pure;apply build59_0_1 <;> eq_refl)
|(apply GX_pure;apply build61_0_1_2 <;> eq_refl)
|(apply GX_pure;apply build29_0_2_8 <;> eq_refl)
|(apply G_new (fun b => .slice (some ⟨b, 0, none⟩) 2 2);eq_refl;(intro _;apply buildS23_2 <;> eq_refl);intro _)
|(apply G_new (fun b => .slice (some ⟨b, 0, none⟩) 1 1);eq_refl;(intro _;apply buildS25_1 <;> eq_refl);intro _)
|(apply G_new (fun b => .slice (some ⟨b, 0, none⟩) 2 2);eq_refl;(intro _;apply buildS22_2 <;> eq_refl);intro _)
|(apply G_new (fun b => .slice (some ⟨b, 0, none⟩) 1 1);eq_refl;(intro _;apply buildS22_1 <;> eq_refl);intro _))
  exact ⟨[], (by repeat first | exact Wk.nil | exact Wk.refl | (apply Wk.cons; (focus ((repeat first | exact Rem.here | apply Rem.there | apply Rem.skip); done))) | apply Wk.nilv | apply Wk.last | apply Wk.drop), rfl, rfl⟩
end SC
end Go.Proofs.YtclihihdgodloaaDoor
end
section
/- trestlelaw08: TernSteps, TernSettles, TernRows, TernLifts: the walks. -/
set_option linter.unusedVariables false
set_option linter.unusedSimpArgs false
namespace Go.Proofs.YtclihihdgodloaaDoor
namespace SC
open Go.Proofs
attribute [local irreducible] WC WL WX WS WO OX Does DoesU Enters CV Pure thenQ blockQ retQ Wants retQC GC GL GS GX RdB thenG blockG retG Rd At gt CVN CVM
attribute [local irreducible] lentX bun
set_option maxRecDepth 100000
theorem sameV {Γ : Mm} {w : World} {A B : Option Addr} {k k' : Nat} {m : List Int} (h1 : In Γ (.vec icell 1 3 A k m)) (h2 : In Γ (.vec icell 1 3 B k' m)) (M : Mem w Γ) : CVN Tryd.prog 14 [.slice A m.length k, .slice B m.length k'] w fun v N => N = [] ∧ v = .bool true := sameIntsG (h1.row M) (h2.row M) (vec_len (h1.ok M))
set_option maxHeartbeats 1600000 in
theorem ternRows_cv {w : World} {S T : Option Addr} {k1 k2 : Nat} {a b : List Int} {l : Int} (G : TabG w) (hx : -9223372036854775808 ≤ l ∧ l ≤ 9223372036854775807) (hS : RowA w icell 1 S a) (hzs : S = none → k1 = 0) (hns : a.length ≤ 17592186043904) (hT : RowA w icell 1 T b) (hzr : T = none → k2 = 0) (hnr : b.length ≤ 17592186043904) :
    CVN Tryd.prog 7 [.slice S a.length k1, .slice T b.length k2, nu l] w fun v N => N = [] ∧ v = .bool true := by
  have hL1 : ∀ Γ, In Γ (.old w none_) → ∀ w', Mem w' Γ → CVN Tryd.prog 11 [.slice S a.length k1] w' (LendIR a) := fun Γ hi w' M => lendIntsG (hS.chg (hi.old M)) hzs (by omega)
  have hL2 : ∀ Γ, In Γ (.old w none_) → ∀ w', Mem w' Γ → CVN Tryd.prog 11 [.slice T b.length k2] w' (LendIR b) := fun Γ hi w' M => lendIntsG (hT.chg (hi.old M)) hzr (by omega)
  have hV1 : ∀ Γ A1 q1, In Γ (.old w none_) → In Γ (.vec icell 1 3 A1 q1 (a ++ [-77])) → ∀ w', Mem w' Γ → CVN Tryd.prog 28 [.slice A1 a.length q1, nu l] w' _ := fun Γ A1 q1 ho h1 w' M => LitP8_cv (G.chg (ho.old M)) (h1.rowL M) (by
    have o : w'.ownsRow 0 3 1 (.slice A1 (a ++ [-77]).length q1) (a ++ [-77]).length ((a ++ [-77]).flatMap icell) := h1.ok M
    rcases o.2 with ⟨hv, hn⟩ | ⟨g, cap, cur, hv, _, _, hcap, _⟩
    · simp at hn
    · simp only [Value.slice.injEq] at hv
      have := hv.2.2
      rw [List.length_append] at hcap
      omega) hx
  have hV2 : ∀ Γ, In Γ (.old w none_) → ∀ w', Mem w' Γ → CVN Tryd.prog 29 [.slice S a.length k1, nu l] w' _ := fun Γ ho w' M => LitR8_cv (hS.chg (ho.old M)) hx
  have hJ1 : ∀ Γ A1 q1 A2 q2, In Γ (.vec icell 1 3 A1 q1 (a ++ [-77])) → In Γ (.vec icell 1 3 A2 q2 (b ++ [-77])) → ∀ w', Mem w' Γ → CVN Tryd.prog 30 [.slice A1 a.length q1, .slice A2 b.length q2] w' (IntsE (jnM a b) (jnE a b)) := fun Γ A1 q1 A2 q2 h1 h2 w' M => JoinP_cv (h1.rowL M) (h2.rowL M) (by omega) (by omega)
  have hJ2 : ∀ Γ, In Γ (.old w none_) → ∀ w', Mem w' Γ → CVN Tryd.prog 31 [.slice S a.length k1, .slice T b.length k2] w' (IntsE (jnM a b) (jnE a b)) := fun Γ ho w' M => JoinR_cv (hS.chg (ho.old M)) (hT.chg (ho.old M)) (by omega) (by omega)
  have hK1 : ∀ Γ A q, In Γ (.vec icell 1 3 A q (a ++ [-77])) → In Γ (.old w none_) → ∀ w', Mem w' Γ → CVN Tryd.prog 17 [.slice A a.length q, .slice S a.length k1] w' _ := fun Γ A q h1 ho w' M => keptIntsG h1 (hS.chg (ho.old M)) (by omega) M
  have hK2 : ∀ Γ A q, In Γ (.vec icell 1 3 A q (b ++ [-77])) → In Γ (.old w none_) → ∀ w', Mem w' Γ → CVN Tryd.prog 17 [.slice A b.length q, .slice T b.length k2] w' _ := fun Γ A q h1 ho w' M => keptIntsG h1 (hT.chg (ho.old M)) (by omega) M
  have hW : ∀ Γ, In Γ (.old w none_) → ∀ w', Mem w' Γ → CVN Tryd.prog 18 [] w' _ := fun Γ ho w' M => works8_cv (G.chg (ho.old M))
  have hsp : ∀ (A : Option Addr) (q : Nat) (m : List Int) (mk : Int), ∀ w', Mem w' [.vec icell 1 3 A q m] → CVM Tryd.prog 15 [.slice A m.length q, nu mk] w' [.vec icell 1 3 A q m] fun v N => N = [] := fun A q m mk w' M => spoilIntsG M
  refine CVN.enter 77 [6] Tryd.func7 rfl rfl rfl (by decide) rfl ?_
  unfold IntsE at hJ1 hJ2
  unfold LendIR at hL1 hL2
  generalize jnM a b = m1 at *
  generalize jnE a b = ε at *
  generalize lsM a l = x1 at *
  generalize lsE a l = ε2 at *
  repeat' (first
|(apply GC_seqK;intro K hK)
|(apply hK;clear hK K)
|(apply GC_region)
|(apply GL_nil)
|(apply thenG_normal)
|(apply GL_on;eq_refl;eq_refl)
|(apply G_pv;eq_refl;first|exact trivial|omega))
  apply G_call; eq_refl; eq_refl; (apply hL1; (repeat first | exact In.here | apply In.there | apply In.skip)); rintro _ _ ⟨A1, q1, rfl, rfl⟩
  repeat' (first
|(apply GL_on;eq_refl;eq_refl)
|(apply G_pv;eq_refl;first|exact trivial|omega))
  apply G_call; eq_refl; eq_refl; (apply hL2; (repeat first | exact In.here | apply In.there | apply In.skip)); rintro _ _ ⟨A2, q2, rfl, rfl⟩
  repeat' (first
|(apply GC_seqK;intro K hK)
|(apply hK;clear hK K)
|(apply GC_region)
|(apply GL_nil)
|(apply thenG_normal)
|(apply GL_on;eq_refl;eq_refl)
|(apply G_pv;eq_refl;first|exact trivial|omega))
  apply G_call; eq_refl; eq_refl; (apply hV1; (repeat first | exact In.here | apply In.there | apply In.skip); (repeat first | exact In.here | apply In.there | apply In.skip)); rintro _ _ ⟨rfl, rfl⟩
  repeat' (first
|(apply G_call;eq_refl;eq_refl;(apply hV2;(repeat first|exact In.here|apply In.there|apply In.skip));rintro _ _ ⟨rfl, rfl⟩)
|(apply GC_seqK;intro K hK)
|(apply hK;clear hK K)
|(apply GC_region)
|(apply GL_nil)
|(apply thenG_normal)
|(apply GL_on;eq_refl;eq_refl)
|(apply G_pv;eq_refl;first|exact trivial|omega))
  apply G_call; eq_refl; eq_refl; (apply hJ1; (repeat first | exact In.here | apply In.there | apply In.skip); (repeat first | exact In.here | apply In.there | apply In.skip)); rintro _ _ ⟨A6, q6, rfl, rfl⟩
  repeat' (first
|(apply G_call;eq_refl;eq_refl;(apply hJ2;(repeat first|exact In.here|apply In.there|apply In.skip));rintro _ _ ⟨A7, q7, rfl, rfl⟩)
|(apply G_call;eq_refl;eq_refl;(intro w' M;apply (sameV (A := A6) (k := q6) (B := A7) (k' := q7) (m := m1) _ _ M);(repeat first|exact In.here|apply In.there|apply In.skip);(repeat first|exact In.here|apply In.there|apply In.skip));rintro _ _ ⟨rfl, rfl⟩)
|(apply G_callM2;exact wr_p;eq_refl;(exact hsp A6 q6 m1 (-7));(repeat first|exact Rems.nil|(apply Rems.cons;(focus ((repeat first|exact Rem.here|apply Rem.there|apply Rem.skip);done))));rintro _ _ rfl)
|(apply G_call;eq_refl;eq_refl;(apply hK1;(repeat first|exact In.here|apply In.there|apply In.skip);(repeat first|exact In.here|apply In.there|apply In.skip));rintro _ _ ⟨rfl, rfl⟩)
|(apply G_call;eq_refl;eq_refl;(apply hK2;(repeat first|exact In.here|apply In.there|apply In.skip);(repeat first|exact In.here|apply In.there|apply In.skip));rintro _ _ ⟨rfl, rfl⟩)
|(apply G_call;eq_refl;eq_refl;(apply hW;(repeat first|exact In.here|apply In.there|apply In.skip));rintro _ _ ⟨rfl, rfl⟩)
|(apply GC_seqK;intro K hK)
|(apply hK;clear hK K)
|(apply GC_region)
|(apply GL_nil)
|(apply thenG_normal)
|(apply GC_ret)
|(apply GC_skip)
|(apply GC_if_false;eq_refl)
|(apply retG1;eq_refl)
|(apply GL_on;eq_refl;eq_refl)
|(apply G_pv;eq_refl;first|exact trivial|omega)
|(apply G_cmpF;eq_refl;eq_refl;omega))
  exact ⟨[], (by repeat first | exact Wk.nil | exact Wk.refl | (apply Wk.cons; (focus ((repeat first | exact Rem.here | apply Rem.there | apply Rem.skip); done))) | apply Wk.nilv | apply Wk.last | apply Wk.drop), rfl, rfl⟩
end SC
end Go.Proofs.YtclihihdgodloaaDoor
end
section
/- The tables, as the rows' condition tells them. -/
set_option linter.unusedVariables false
set_option linter.unusedSimpArgs false
namespace Go.Proofs.YtclihihdgodloaaDoor
namespace SC
open Go.Proofs Go.ChangeShapes Go.WideShapes Go.ChangeAt Go.WideMaps Go.WideElems Go.RowKit
theorem gCon : Tryd.prog.globalNamed "trestle/tern.contrary" = some 0 := by kernel_rfl
theorem gBoth : Tryd.prog.globalNamed "trestle/tern.both" = some 1 := by kernel_rfl
theorem tCon : (Tryd.prog.globals[0]?).map (·.type) = some 101 := by kernel_rfl
theorem tBoth : (Tryd.prog.globals[1]?).map (·.type) = some 104 := by kernel_rfl
set_option maxRecDepth 100000
section
variable {H : Type} {enc : TypeId × Value → H} {W : World} {base : Nat} {spare : Nat → Bool} {held : Bool}
theorem arr3 {fuel : Nat} {cs : List Value} {x : DataW H × List MemPlace} {a b c : Int} (h : DataW.trod enc Tryd.prog W base spare held fuel 101 cs = some x) (hx : x.1 = .agg [.lit (.int .i64 a), .lit (.int .i64 b), .lit (.int .i64 c)]) : cs = [nu a, nu b, nu c] := by
  obtain ⟨xs, m1, rfl, hx1, hlen, hn3, hel⟩ := DataW.trod_array Tryd.underlying101 h
  have c3 : Tryd.prog.cellsOf 3 = 1 := by kernel_rfl
  have c9 : Tryd.prog.cellsOf 101 = 3 := by kernel_rfl
  rw [c9] at hlen
  have h0 := hel 0 (by decide)
  have h1 := hel 1 (by decide)
  have h2 := hel 2 (by decide)
  rw [c3] at h0 h1 h2
  match cs, hlen, xs, hn3 with
  | [c0, c1, c2], _, [x0, x1, x2], _ =>
    obtain ⟨n0, e0, f0, _⟩ := DataW.trod_int Tryd.underlying3 (show DataW.trod enc Tryd.prog W base spare held m1 3 [c0] = some x0 from h0)
    obtain ⟨n1, e1, f1, _⟩ := DataW.trod_int Tryd.underlying3 (show DataW.trod enc Tryd.prog W base spare held m1 3 [c1] = some x1 from h1)
    obtain ⟨n2, e2, f2, _⟩ := DataW.trod_int Tryd.underlying3 (show DataW.trod enc Tryd.prog W base spare held m1 3 [c2] = some x2 from h2)
    rw [hx1, f0, f1, f2] at hx
    simp only [List.map_cons, List.map_nil, DataW.agg.injEq, List.cons.injEq, DataW.lit.injEq, Lit.int.injEq, true_and, and_true] at hx
    obtain ⟨rfl, rfl, rfl⟩ := hx
    rw [(List.cons.inj e0).1, (List.cons.inj e1).1, (List.cons.inj e2).1]
theorem arr33 {fuel : Nat} {cs : List Value} {x : DataW H × List MemPlace} {a b c a' b' c' a'' b'' c'' : Int} (h : DataW.trod enc Tryd.prog W base spare held fuel 104 cs = some x)
    (hx : x.1 = .agg [.agg [.lit (.int .i64 a), .lit (.int .i64 b), .lit (.int .i64 c)], .agg [.lit (.int .i64 a'), .lit (.int .i64 b'), .lit (.int .i64 c')], .agg [.lit (.int .i64 a''), .lit (.int .i64 b''), .lit (.int .i64 c'')]]) : cs = [nu a, nu b, nu c, nu a', nu b', nu c', nu a'', nu b'', nu c''] := by
  obtain ⟨xs, m1, rfl, hx1, hlen, hn3, hel⟩ := DataW.trod_array Tryd.underlying104 h
  have c9 : Tryd.prog.cellsOf 101 = 3 := by kernel_rfl
  have c27 : Tryd.prog.cellsOf 104 = 9 := by kernel_rfl
  rw [c27] at hlen
  have h0 := hel 0 (by decide)
  have h1 := hel 1 (by decide)
  have h2 := hel 2 (by decide)
  rw [c9] at h0 h1 h2
  match cs, hlen, xs, hn3 with
  | [c0, c1, c2, c3, c4, c5, c6, c7, c8], _, [x0, x1, x2], _ =>
    rw [hx1] at hx
    simp only [List.map_cons, List.map_nil, DataW.agg.injEq, List.cons.injEq, and_true] at hx
    have e0 := arr3 (show DataW.trod enc Tryd.prog W base spare held m1 101 [c0, c1, c2] = some x0 from h0) hx.1
    have e1 := arr3 (show DataW.trod enc Tryd.prog W base spare held m1 101 [c3, c4, c5] = some x1 from h1) hx.2.1
    have e2 := arr3 (show DataW.trod enc Tryd.prog W base spare held m1 101 [c6, c7, c8] = some x2 from h2) hx.2.2
    simp only [List.cons.injEq, and_true] at e0 e1 e2
    obtain ⟨rfl, rfl, rfl⟩ := e0
    obtain ⟨rfl, rfl, rfl⟩ := e1
    obtain ⟨rfl, rfl, rfl⟩ := e2
    rfl
end
abbrev laidT : List (String × DataW Unit) := [("trestle/tern.both", Rows.laid_trestle_tern_both), ("trestle/tern.contrary", Rows.laid_trestle_tern_contrary)]
/-- The door's own heap meets the condition. -/
theorem door_met (os : Os) (args : Array Value) : laidMetH Tryd.prog laidT ((World.doorLaid Tryd.prog 400 os).forCall (fun _ _ => 0) ⟨#[], args, []⟩).memory :=
  laidMetH_of_parts3 (fuel := 8) (laidMet_of_run' 8 (by kernel_rfl) (by kernel_rfl)) (by kernel_rfl) (by kernel_rfl)
theorem of_laid {W : World} (h : laidMetH Tryd.prog laidT W) : TabG W := by
  rw [MakeChecks.laidMetH_plain _ _ _ (by kernel_rfl)] at h
  obtain ⟨ps, ⟨g0, t0, cs0, f0, p0, q0, hg0, ht0, hv0, hd0, ⟨g1, t1, cs1, f1, p1, q1, hg1, ht1, hv1, hd1, _, _⟩, _⟩, _, _⟩ := h
  obtain rfl := Option.some.inj (gBoth.symm.trans hg0)
  obtain rfl := Option.some.inj (gCon.symm.trans hg1)
  obtain rfl := Option.some.inj (tBoth.symm.trans ht0)
  obtain rfl := Option.some.inj (tCon.symm.trans ht1)
  have e0 := arr33 hd0 rfl
  have e1 := arr3 hd1 rfl
  obtain ⟨l0⟩ := cs0
  obtain ⟨l1⟩ := cs1
  simp only at e0 e1
  subst e0 e1
  refine ⟨fun i hi => ?_, fun i j hi hj => ?_⟩
  · rw [World.var?_cell hg1 hv1 i]
    have h3 : i = 0 ∨ i = 1 ∨ i = 2 := by omega
    rcases h3 with rfl | rfl | rfl <;> rfl
  · rw [World.var?_cell hg0 hv0 (i * 3 + j)]
    have h3 : i = 0 ∨ i = 1 ∨ i = 2 := by omega
    have h4 : j = 0 ∨ j = 1 ∨ j = 2 := by omega
    rcases h3 with rfl | rfl | rfl <;> rcases h4 with rfl | rfl | rfl <;> rfl
end SC
end Go.Proofs.YtclihihdgodloaaDoor
end
section
/- Lists of numbers and numbers that come in. -/
set_option linter.unusedVariables false
set_option linter.unusedSimpArgs false
namespace Go.Proofs.YtclihihdgodloaaDoor
namespace SC
open Go.Proofs
set_option maxRecDepth 100000
section
variable {H : Type} {enc : TypeId × Value → H} {W : World} {base : Nat} {spare : Nat → Bool} {held : Bool}
theorem openNumsF {fuel : Nat} {cs : List Value} {x : DataW H × List MemPlace} (h : DataW.trod enc Tryd.prog W base spare held fuel 22 cs = some x) : ∃ (A : Option Addr) (cp : Nat) (l : List Int), cs = [.slice A l.length cp] ∧ RowA W icell 1 A l ∧ (∀ a ∈ l, fits a) ∧ (A = none → cp = 0) ∧ (∀ R, (∀ n ∈ x.1.weights Tryd.prog 22, n ≤ R) → l.length * 8 ≤ R) := by
  obtain ⟨A, cp, l, e, r, g, _, z, w⟩ := openRowS icell (fun a _ => fits a) Tryd.underlying22 (by kernel_rfl) (fun _ => rfl) (fun _ _ _ h => openIntS h) h
  refine ⟨A, cp, l, e, r, fun a ha => ?_, z, fun R hR => ?_⟩
  · obtain ⟨d, hd, _⟩ := g a ha
    exact hd
  · have := w R hR
    rw [bytes3] at this
    exact this
theorem openNumsS {v : Value} {d : DataW H} {ps : List MemPlace} {r : Reach} {b0 : Nat} (hv : Value.okWide Tryd.prog W r b0 22 v) (h : DataW.Trod enc Tryd.prog W base spare held 22 v d ps) (hz : ∀ n ∈ d.weights Tryd.prog 22, n ≤ 140737488351232) :
    ∃ (A : Option Addr) (cp : Nat) (l : List Int), v = .slice A l.length cp ∧ RowA W icell 1 A l ∧ (A = none → cp = 0) ∧ l.length ≤ 17592186043904 ∧ (∀ a ∈ l, fits a) := by
  obtain ⟨A, n, cp, rfl⟩ := Go.WideShapes.okWide_slice Tryd.underlying22 hv
  obtain ⟨fuel, hf⟩ := h
  rw [cells_slice] at hf
  obtain ⟨A', cp', l, e, r, g, z, w⟩ := openNumsF hf
  cases (List.cons.inj e).1
  exact ⟨_, _, l, rfl, r, z, by have := w _ hz; omega, g⟩
theorem openNumS {v : Value} {d : DataW H} {ps : List MemPlace} {r : Reach} {b0 : Nat} (hv : Value.okWide Tryd.prog W r b0 3 v) (h : DataW.Trod enc Tryd.prog W base spare held 3 v d ps) : ∃ a, v = nu a ∧ fits a := by
  obtain ⟨z, rfl, _⟩ := Go.WideShapes.okWide_int Tryd.underlying3 hv
  obtain ⟨fuel, hf⟩ := h
  obtain ⟨a, e, ha⟩ := openIntS (cs := [nu z]) hf
  cases (List.cons.inj e).1
  exact ⟨z, rfl, ha⟩
end
end SC
end Go.Proofs.YtclihihdgodloaaDoor
end
