/- Texts of this seat, one behind the other: L3 L4 L5 L6 L7 L8 L9 S2 S3 S4 S5 S6 S7 S8 S9. -/
import Derived.Test.YtbmngkdnebklpaaGreatP3
section
/- trestleref03: Defined. -/
set_option linter.unusedVariables false
set_option linter.unusedSimpArgs false
namespace Go.Proofs.YtbmngkdnebklpaaGreat
namespace SC
open Go.Proofs
attribute [local irreducible] WC WL WX WS WO OX Does DoesU Enters CV Pure thenQ blockQ retQ Wants retQC
set_option maxRecDepth 100000
theorem defined_cv {w : World} {c : Circ} {h js : Hd} (H : CirAt w c h js) (hs : c.Okay) (hm : 0 ≤ c.max ∧ c.max ≤ 16384) : CV Tryz.prog 68 [.agg (ccells c h).toArray] w fun v w' => Chg w w' none_ ∧
    (((definesM c (T0 c)).1.2 ≠ 0 ∧ v = .tuple #[.slice none 0 0, nu (definesM c (T0 c)).1.1, nu (definesM c (T0 c)).1.2]) ∨
     ((definesM c (T0 c)).1.2 = 0 ∧ ∃ b, ∃ n : Nat, w.heap.size ≤ b ∧ (n : Int) = c.max + 1 ∧ (tabM c).length = n ∧ v = .tuple #[.slice (some ⟨b, 0, none⟩) n n, nu 0, nu 0] ∧ Blk w' b 4 ((ut (tabM c)).map Value.bool))) := by
  obtain ⟨m, hm2⟩ : ∃ m : Nat, c.max + 1 = m := ⟨(c.max + 1).toNat, by omega⟩
  have hml : (c.max + 1).toNat = m := by omega
  have hI0 : Blk (w.alloc (.cells (ccells c h).toArray 29)) w.heap.size 29 (ccells c h) := Blk.new w _ _
  have hC0 := Chg.alloc w (.cells (ccells c h).toArray 29) none_
  have hz0 := sz_alloc w (.cells (ccells c h).toArray 29)
  have hlens := hs.lens
  simp only [Circ.lens, List.mem_cons, List.not_mem_nil, or_false] at hlens
  have k1 := hlens _ (.inl rfl)
  have k2 := hlens _ (.inr (.inl rfl))
  have k8 := hlens _ (.inr (.inr (.inr (.inr (.inr (.inr (.inr (.inl rfl))))))))
  clear hlens
  refine enter 96 [2, 3, 4] Tryz.func68 rfl rfl rfl (by decide) rfl ?_
  repeat' (first
|(apply WC_seqK;intro K hK)
|(apply hK;clear hK)
|(apply WC_region)
|(apply WL_nil)
|(apply thenQ_normal)
|(apply WL_on0;eq_refl)
|(apply X_pv;eq_refl;first|exact trivial|omega)
|(apply X_field;eq_refl)
|(apply X_loadR;eq_refl;(first|assumption|(apply Blk.alloc;assumption)|apply Blk.new|apply Blk.newA|(apply Blk.alloc;first|apply Blk.newA|(apply Blk.alloc;first|assumption|apply Blk.newA)));eq_refl)
|(apply X_box;eq_refl))
  rw [hm2]
  repeat' (first
|(apply X_make;eq_refl;omega;omega)
|(apply WC_seqK;intro K hK)
|(apply hK;clear hK)
|(apply WC_block)
|(apply WC_region)
|(apply WL_nil)
|(apply thenQ_normal)
|(apply WL_on0;eq_refl)
|(apply X_pv;eq_refl;first|exact trivial|omega))
  have e1 : (madeCells (Value.bool false).cells (m * 1)).toList = (bt (T0 c)).map Value.bool := by rw [Nat.mul_one, show (Value.bool false).cells = #[Value.bool false] from rfl, made_one]; simp [bt, T0, hml]
  have b1 := Blk.newA (w.alloc (.cells (ccells c h).toArray 29)) (madeCells (Value.bool false).cells (m * 1)) 4
  rw [e1, hz0] at b1
  refine WC_turn (fun W => Chg w W none_ ∧ Blk W w.heap.size 29 (ccells c h) ∧ Blk W (w.heap.size + 1) 4 ((bt (T0 c)).map Value.bool)) ⟨hC0.al _, hI0.alloc _, b1⟩ ?_
  clear b1 hI0 hC0 e1
  rintro w0 ⟨hC0, hI0, hB0⟩
  have hl0 : ((T0 c).length : Int) = c.max + 1 := by simp [T0, hml, hm2]
  refine WC_loop (fun s : Nat × Tab => [(1, pt w.heap.size), (5, .slice (some ⟨w.heap.size + 1, 0, none⟩) m m), (6, nu s.1)])
    (fun s W => Chg w W none_ ∧ Blk W w.heap.size 29 (ccells c h) ∧ Blk W (w.heap.size + 1) 4 ((bt s.2).map Value.bool) ∧ s.2.length = m ∧ s.1 ≤ c.inputs.length ∧ goDef c.max 1 (c.inputs.drop s.1) s.1 s.2 = goDef c.max 1 c.inputs 0 (T0 c)) (fun s => c.inputs.length - s.1) (0, T0 c) ⟨rfl, congrArg (fun k => some (Value.slice (some ⟨k, 0, none⟩) m m)) hz0, rfl, trivial⟩ ⟨hC0, hI0, hB0, by show (T0 c).length = m; omega, Nat.zero_le _, rfl⟩ ?_
  clear hB0 hI0 hC0 hz0 w0
  rintro ⟨k, t1⟩ w1 ⟨hC1, hI1, hB1, hl1, hk, hgo⟩
  simp only at hB1 hl1 hk hgo
  rcases Nat.lt_or_ge k c.inputs.length with hlt | hge
  · obtain ⟨p, hp, hpc⟩ := H.inputs.one hlt (v := nu c.inputs[k]) rfl
    rw [goDef_step hlt] at hgo
    generalize hx : c.inputs[k] = x at *
    have e6 : (ccells c h)[0 + 1]? = some (.slice (some p) c.inputs.length (h 1).2) := by rw [← hp]; rfl
    have hlen3 := len_defM c.max t1 x (1, (k : Int))
    repeat' (first
|(apply WC_seqK;intro K hK)
|(apply hK;clear hK)
|(apply WC_block)
|(apply WC_region)
|(apply WL_nil)
|(apply thenQ_normal)
|(apply WC_skip)
|(apply WC_if_true;eq_refl)
|(apply WL_on0;eq_refl)
|(apply X_pv;eq_refl;first|exact trivial|omega)
|(apply X_field;eq_refl)
|(apply X_loadR;eq_refl;(first|assumption|(apply Blk.alloc;assumption)|apply Blk.new|apply Blk.newA|(apply Blk.alloc;first|apply Blk.newA|(apply Blk.alloc;first|assumption|apply Blk.newA)));eq_refl)
|(apply X_cmpT;eq_refl;eq_refl;omega)
|(apply X_len;eq_refl))
    refine WC_draws [(0, true), (1, true), (2, true), (3, true), (4, true), (5, true), (6, true), (7, false), (8, true)] (fun W => Chg w W none_ ∧ Blk W w.heap.size 29 (ccells c h)) mixed (by kernel_rfl) (by kernel_rfl) ?_
    have hS : Chg w w1.drew none_ ∧ Blk w1.drew w.heap.size 29 (ccells c h) := ⟨hC1.dr, hI1⟩
    have hone := one_cv (h := h) (k := 1) (i := (k : Int)) (l := x) (hB1.chg (Chg.refl w1 none_).dr id) hm (by omega) (by decide)
    rw [hl1] at hone
    repeat' (first
|(apply O_loadW;eq_refl;(exact fun _ h => h.2);eq_refl;assumption)
|(apply O_loadR;eq_refl;(exact fun _ h => h.2);exact e6;assumption)
|(apply O_loadC;eq_refl;(exact fun W h => cel_chg hpc h.1 id);assumption)
|(apply O_fn;eq_refl;exact hone;rintro _ w3 ⟨rfl, hB3, hC3⟩;have hS3 : Chg w w3 none_ ∧ Blk w3 w.heap.size 29 (ccells c h) := ⟨hS.1.trans hC3 fun k hk hh => by omega, hS.2.chg hC3 (by omega)⟩;refine ⟨fun _ => hS3, ?_⟩)
|(apply WC_seqK;intro K hK)
|(apply hK;clear hK)
|(apply WC_region)
|(apply WL_nil)
|(apply thenQ_normal)
|(apply thenQ_ret)
|(apply blockQ_ret)
|(apply blockQ_normal)
|(apply WC_ret)
|(apply WC_skip)
|(apply WC_if_true;eq_refl)
|(apply WC_if_false;eq_refl)
|(apply ret3;eq_refl;eq_refl;eq_refl)
|(apply WS_nil)
|(apply WS_next;eq_refl)
|(apply WO_on0;eq_refl)
|(apply O_pv;eq_refl;(first|exact trivial|omega);(first|assumption|exact trivial))
|(apply O_field;eq_refl;(first|assumption|exact trivial))
|(apply O_indexP;eq_refl;eq_refl;omega;omega;(first|assumption|exact trivial))
|(apply WL_on0;eq_refl)
|(apply X_pv;eq_refl;first|exact trivial|omega)
|(apply X_cmp;eq_refl;eq_refl;all_goals intro _))
    · rw [if_pos (by assumption)] at hgo
      have e : definesM c (T0 c) = goDef c.max 1 c.inputs 0 (T0 c) := by unfold definesM; rw [if_pos (by rw [← hgo]; assumption)]
      rw [e, ← hgo]
      exact ⟨hS3.1, .inl ⟨by assumption, rfl⟩⟩
    · rw [if_neg (by assumption)] at hgo
      exact ⟨(k + 1, (defM c.max t1 x (1, (k : Int))).2), ⟨rfl, rfl, rfl, trivial⟩, ⟨hS3.1, hS3.2, hB3, by simp only; omega, hlt, hgo⟩, by simp only; omega⟩
  rw [List.drop_eq_nil_of_le hge] at hgo
  have e1 : (goDef c.max 1 c.inputs 0 (T0 c)).1.2 = 0 := by rw [← hgo]; rfl
  have e2 : (goDef c.max 1 c.inputs 0 (T0 c)).2 = t1 := by rw [← hgo]; rfl
  have e3 : definesM c (T0 c) = if (goDefL c.max c.latches 0 t1).1.2 ≠ 0 then goDefL c.max c.latches 0 t1 else goDef c.max 3 (c.ands.map (·.1)) 0 (goDefL c.max c.latches 0 t1).2 := by unfold definesM; rw [if_neg (by simp [e1]), e2]
  clear e1 e2 hgo
  repeat' (first
|(apply WC_seqK;intro K hK)
|(apply hK;clear hK)
|(clear hK;apply hK;clear hK)
|(apply WC_block)
|(apply WC_region)
|(apply WL_nil)
|(apply thenQ_normal)
|(apply thenQ_exit)
|(apply blockQ_hit)
|(apply WC_exit)
|(apply WC_if_false;eq_refl)
|(apply WL_on0;eq_refl)
|(apply X_pv;eq_refl;first|exact trivial|omega)
|(apply X_field;eq_refl)
|(apply X_loadR;eq_refl;(first|assumption|(apply Blk.alloc;assumption)|apply Blk.new|apply Blk.newA|(apply Blk.alloc;first|apply Blk.newA|(apply Blk.alloc;first|assumption|apply Blk.newA)));eq_refl)
|(apply X_cmpF;eq_refl;eq_refl;omega)
|(apply X_len;eq_refl))
  refine WC_loop (fun s : Nat × Tab => [(1, pt w.heap.size), (5, .slice (some ⟨w.heap.size + 1, 0, none⟩) m m), (8, nu s.1)])
    (fun s W => Chg w W none_ ∧ Blk W w.heap.size 29 (ccells c h) ∧ Blk W (w.heap.size + 1) 4 ((bt s.2).map Value.bool) ∧ s.2.length = m ∧ s.1 ≤ c.latches.length ∧ goDefL c.max (c.latches.drop s.1) s.1 s.2 = goDefL c.max c.latches 0 t1) (fun s => c.latches.length - s.1) (0, t1) ⟨rfl, rfl, rfl, trivial⟩ ⟨hC1, hI1, hB1, hl1, Nat.zero_le _, rfl⟩ ?_
  clear hI1 hB1 hC1 hge hk
  rintro ⟨k, t2⟩ w2 ⟨hC2, hI2, hB2, hl2, hk, hgo⟩
  simp only at hB2 hl2 hk hgo
  rcases Nat.lt_or_ge k c.latches.length with hlt | hge
  · obtain ⟨p, hp, hpc⟩ := (H.chg hC2).latches k hlt
    rw [goDefL_step hlt] at hgo
    generalize hx : c.latches[k] = x at *
    have hlen3 := len_defM c.max t2 x.1 (2, (k : Int))
    have e6 : (ccells c h)[0 + 2]? = some (.slice (some p) c.latches.length (h 2).2) := by rw [← hp]; rfl
    repeat' (first
|(apply X_loadR;eq_refl;exact hI2;exact e6)
|(apply X_loadAP (tcells x);eq_refl;eq_refl;exact hpc)
|(apply WC_seqK;intro K hK)
|(apply hK;clear hK)
|(apply WC_block)
|(apply WC_region)
|(apply WL_nil)
|(apply thenQ_normal)
|(apply WC_skip)
|(apply WC_if_true;eq_refl)
|(apply WL_on0;eq_refl)
|(apply X_pv;eq_refl;first|exact trivial|omega)
|(apply X_field;eq_refl)
|(apply X_cmpT;eq_refl;eq_refl;omega)
|(apply X_len;eq_refl)
|(apply X_indexP;eq_refl;eq_refl;omega;omega)
|(apply X_alloc))
    refine X_doesU (does_storeA (t1 := 52) (vs := tcells x) (o := 0) (b := w2.heap.size) (by eq_refl) (by eq_refl) (Blk.newA w2 _ _) rfl (by exact Nat.le_refl 3) (by simp [tcells, Value.oneCell'])) ?_
    have hcc : Chg w2 ((w2.alloc (.cells #[nu 0, nu 0, nu 0] 52)).setRow w2.heap.size (tcells x).toArray) none_ := (Chg.alloc w2 _ none_).trans (Chg.setRow _ w2.heap.size _ (S := fun k => k = w2.heap.size) rfl) fun k hk h => by omega
    have hb2 : w.heap.size + 2 ≤ w2.heap.size := hB2.lt
    refine WL_turn (fun W => Chg w W none_ ∧ Blk W w.heap.size 29 (ccells c h) ∧ Blk W (w.heap.size + 1) 4 ((bt t2).map Value.bool) ∧ Blk W w2.heap.size 52 (tcells x)) ⟨hC2.trans hcc fun _ _ h => h, hI2.chg hcc id, hB2.chg hcc id, (Blk.newA w2 _ 52).set (tcells x)⟩ ?_
    rintro w3 ⟨hC3, hI3, hB3, hN3⟩
    have hone := one_cv (h := h) (k := 2) (i := (k : Int)) (l := x.1) hB3 hm (by omega) (by decide)
    rw [hl2] at hone
    repeat' (first
|(apply X_fn;eq_refl;exact hone;rintro _ w4 ⟨rfl, hB4, hC4⟩;have hN4 := hN3.chg hC4 (by omega);have hI4 := hI3.chg hC4 (by omega);have hC4' := hC3.trans hC4 fun k hk hh => by omega)
|(apply WC_seqK;intro K hK)
|(apply hK;clear hK)
|(apply WC_region)
|(apply WL_nil)
|(apply thenQ_normal)
|(apply thenQ_ret)
|(apply blockQ_ret)
|(apply blockQ_normal)
|(apply WC_ret)
|(apply WC_skip)
|(apply WC_if_true;eq_refl)
|(apply WC_if_false;eq_refl)
|(apply ret3;eq_refl;eq_refl;eq_refl)
|(apply WL_on0;eq_refl)
|(apply WL_onG;eq_refl;eq_refl;eq_refl;eq_refl)
|(apply WL_noG;eq_refl;eq_refl;eq_refl;eq_refl)
|(apply X_pv;eq_refl;first|exact trivial|omega)
|(apply X_field;eq_refl)
|(apply X_loadR;eq_refl;(first|assumption|(apply Blk.alloc;assumption)|apply Blk.new|apply Blk.newA|(apply Blk.alloc;first|apply Blk.newA|(apply Blk.alloc;first|assumption|apply Blk.newA)));eq_refl)
|(apply X_loadW;eq_refl;(first|assumption|(apply Blk.alloc;assumption)|apply Blk.new|apply Blk.newA|(apply Blk.alloc;first|apply Blk.newA|(apply Blk.alloc;first|assumption|apply Blk.newA)));eq_refl)
|(apply X_cmp;eq_refl;eq_refl;all_goals intro _))
    all_goals simp only at *
    · rw [if_pos (by assumption)] at hgo
      have e : definesM c (T0 c) = goDefL c.max c.latches 0 t1 := by rw [e3, if_pos (by rw [← hgo]; assumption)]
      rw [e, ← hgo]
      exact ⟨hC4', .inl ⟨by assumption, rfl⟩⟩
    · rw [if_neg (by assumption), if_pos (by unfold badReset; refine ⟨?_, ?_, ?_⟩ <;> assumption)] at hgo
      have e : definesM c (T0 c) = goDefL c.max c.latches 0 t1 := by rw [e3, if_pos (by rw [← hgo]; show (33 : Int) ≠ 0; decide)]
      rw [e, ← hgo]
      exact ⟨hC4', .inl ⟨by show (33 : Int) ≠ 0; decide, rfl⟩⟩
    all_goals
      rw [if_neg (by assumption), if_neg (by unfold badReset; omega)] at hgo
      exact ⟨(k + 1, (defM c.max t2 x.1 (2, (k : Int))).2), ⟨rfl, rfl, rfl, trivial⟩, ⟨hC4', hI4, hB4, by simp only; omega, hlt, hgo⟩, by simp only; omega⟩
  rw [List.drop_eq_nil_of_le hge] at hgo
  have e1 : (goDefL c.max c.latches 0 t1).1.2 = 0 := by rw [← hgo]; rfl
  have e2 : (goDefL c.max c.latches 0 t1).2 = t2 := by rw [← hgo]; rfl
  have e4 : definesM c (T0 c) = goDef c.max 3 (c.ands.map (·.1)) 0 t2 := by rw [e3, if_neg (by simp [e1]), e2]
  clear e1 e2 hgo e3
  repeat' (first
|(apply WC_seqK;intro K hK)
|(apply hK;clear hK)
|(clear hK;apply hK;clear hK)
|(apply WC_block)
|(apply WC_region)
|(apply WL_nil)
|(apply thenQ_normal)
|(apply thenQ_exit)
|(apply blockQ_hit)
|(apply WC_exit)
|(apply WC_if_false;eq_refl)
|(apply WL_on0;eq_refl)
|(apply X_pv;eq_refl;first|exact trivial|omega)
|(apply X_field;eq_refl)
|(apply X_loadR;eq_refl;(first|assumption|(apply Blk.alloc;assumption)|apply Blk.new|apply Blk.newA|(apply Blk.alloc;first|apply Blk.newA|(apply Blk.alloc;first|assumption|apply Blk.newA)));eq_refl)
|(apply X_cmpF;eq_refl;eq_refl;omega)
|(apply X_len;eq_refl))
  refine WC_loop (fun s : Nat × Tab => [(1, pt w.heap.size), (5, .slice (some ⟨w.heap.size + 1, 0, none⟩) m m), (11, nu s.1)])
    (fun s W => Chg w W none_ ∧ Blk W w.heap.size 29 (ccells c h) ∧ Blk W (w.heap.size + 1) 4 ((bt s.2).map Value.bool) ∧ s.2.length = m ∧ s.1 ≤ c.ands.length ∧ goDef c.max 3 ((c.ands.map (·.1)).drop s.1) s.1 s.2 = goDef c.max 3 (c.ands.map (·.1)) 0 t2) (fun s => c.ands.length - s.1) (0, t2) ⟨rfl, rfl, rfl, trivial⟩ ⟨hC2, hI2, hB2, hl2, Nat.zero_le _, rfl⟩ ?_
  clear hI2 hB2 hC2 hge hk
  rintro ⟨k, t3⟩ w1 ⟨hC1, hI1, hB1, hl1, hk, hgo⟩
  simp only at hB1 hl1 hk hgo
  rcases Nat.lt_or_ge k c.ands.length with hlt | hge
  · obtain ⟨p, hp, hpc⟩ := H.ands k hlt
    rw [goDef_step (by simpa using hlt), List.getElem_map] at hgo
    generalize hx : c.ands[k] = x at *
    have hlen3 := len_defM c.max t3 x.1 (3, (k : Int))
    have e6 : (ccells c h)[0 + 8]? = some (.slice (some p) c.ands.length (h 8).2) := by rw [← hp]; rfl
    repeat' (first
|(apply WC_seqK;intro K hK)
|(apply hK;clear hK)
|(apply WC_block)
|(apply WC_region)
|(apply WL_nil)
|(apply thenQ_normal)
|(apply WC_skip)
|(apply WC_if_true;eq_refl)
|(apply WL_on0;eq_refl)
|(apply X_pv;eq_refl;first|exact trivial|omega)
|(apply X_field;eq_refl)
|(apply X_loadR;eq_refl;(first|assumption|(apply Blk.alloc;assumption)|apply Blk.new|apply Blk.newA|(apply Blk.alloc;first|apply Blk.newA|(apply Blk.alloc;first|assumption|apply Blk.newA)));eq_refl)
|(apply X_cmpT;eq_refl;eq_refl;omega)
|(apply X_len;eq_refl))
    refine WC_draws [(0, true), (1, true), (2, true), (3, true), (4, true), (5, true), (6, true), (7, true), (8, false), (9, true)] (fun W => Chg w W none_ ∧ Blk W w.heap.size 29 (ccells c h)) mixed (by kernel_rfl) (by kernel_rfl) ?_
    have hS : Chg w w1.drew none_ ∧ Blk w1.drew w.heap.size 29 (ccells c h) := ⟨hC1.dr, hI1⟩
    have hone := one_cv (h := h) (k := 3) (i := (k : Int)) (l := x.1) (hB1.chg (Chg.refl w1 none_).dr id) hm (by omega) (by decide)
    rw [hl1] at hone
    repeat' (first
|(apply O_loadW;eq_refl;(exact fun _ h => h.2);eq_refl;assumption)
|(apply O_loadR;eq_refl;(exact fun _ h => h.2);exact e6;assumption)
|(apply O_loadC;eq_refl;(exact fun W h => cel_chg (hpc 0 _ rfl) h.1 id);assumption)
|(apply O_fn;eq_refl;exact hone;rintro _ w3 ⟨rfl, hB3, hC3⟩;have hS3 : Chg w w3 none_ ∧ Blk w3 w.heap.size 29 (ccells c h) := ⟨hS.1.trans hC3 fun k hk hh => by omega, hS.2.chg hC3 (by omega)⟩;refine ⟨fun _ => hS3, ?_⟩)
|(apply WC_seqK;intro K hK)
|(apply hK;clear hK)
|(apply WC_region)
|(apply WL_nil)
|(apply thenQ_normal)
|(apply thenQ_ret)
|(apply blockQ_ret)
|(apply blockQ_normal)
|(apply WC_ret)
|(apply WC_skip)
|(apply WC_if_true;eq_refl)
|(apply WC_if_false;eq_refl)
|(apply ret3;eq_refl;eq_refl;eq_refl)
|(apply WS_nil)
|(apply WS_next;eq_refl)
|(apply WO_on0;eq_refl)
|(apply O_pv;eq_refl;(first|exact trivial|omega);(first|assumption|exact trivial))
|(apply O_field;eq_refl;(first|assumption|exact trivial))
|(apply O_indexP;eq_refl;eq_refl;omega;omega;(first|assumption|exact trivial))
|(apply O_fieldP;eq_refl;(first|assumption|exact trivial))
|(apply WL_on0;eq_refl)
|(apply X_pv;eq_refl;first|exact trivial|omega)
|(apply X_cmp;eq_refl;eq_refl;all_goals intro _))
    · rw [if_pos (by assumption)] at hgo
      rw [e4, ← hgo]
      exact ⟨hS3.1, .inl ⟨by assumption, rfl⟩⟩
    · rw [if_neg (by assumption)] at hgo
      exact ⟨(k + 1, (defM c.max t3 x.1 (3, (k : Int))).2), ⟨rfl, rfl, rfl, trivial⟩, ⟨hS3.1, hS3.2, hB3, by simp only; omega, hlt, hgo⟩, by simp only; omega⟩
  rw [List.drop_eq_nil_of_le (by simpa using hge)] at hgo
  have e1 : definesM c (T0 c) = ((0, 0), t3) := by rw [e4, ← hgo]; rfl
  repeat' (first
|(apply WC_seqK;intro K hK)
|(apply hK;clear hK)
|(clear hK;apply hK;clear hK)
|(apply WC_region)
|(apply WL_nil)
|(apply thenQ_normal)
|(apply thenQ_exit)
|(apply blockQ_hit)
|(apply WC_exit)
|(apply WC_if_false;eq_refl)
|(apply WL_on0;eq_refl)
|(apply X_pv;eq_refl;first|exact trivial|omega)
|(apply X_field;eq_refl)
|(apply X_loadR;eq_refl;(first|assumption|(apply Blk.alloc;assumption)|apply Blk.new|apply Blk.newA|(apply Blk.alloc;first|apply Blk.newA|(apply Blk.alloc;first|assumption|apply Blk.newA)));eq_refl)
|(apply X_cmpF;eq_refl;eq_refl;omega)
|(apply X_len;eq_refl)
|(apply X_index;eq_refl;eq_refl;omega;omega))
  refine X_doesU (does_store1 (t1 := 4) (b := w.heap.size + 1) (o := 0 + (0 : Int).toNat * 1) (v := .bool true) (by eq_refl) (by eq_refl) hB1 (by rw [List.length_map, bt_len]; show 0 + 0 * 1 < _; omega) rfl rfl) ?_
  have hcc : Chg w1 (w1.setRow (w.heap.size + 1) (((bt t3).map Value.bool).set (0 + (0 : Int).toNat * 1) (.bool true)).toArray) (fun k => k = w.heap.size + 1) := Chg.setRow _ _ _ rfl
  have hB2 : Blk (w1.setRow (w.heap.size + 1) (((bt t3).map Value.bool).set (0 + (0 : Int).toNat * 1) (.bool true)).toArray) (w.heap.size + 1) 4 ((ut t3).map Value.bool) := by
    have := hB1.set (((bt t3).map Value.bool).set (0 + (0 : Int).toNat * 1) (.bool true))
    unfold ut
    rw [List.map_set]
    exact this
  have hC2 : Chg w (w1.setRow (w.heap.size + 1) (((bt t3).map Value.bool).set (0 + (0 : Int).toNat * 1) (.bool true)).toArray) none_ := hC1.trans hcc fun k hk hh => by omega
  repeat' (first
|(apply WC_seqK;intro K hK)
|(apply hK;clear hK)
|(apply WC_region)
|(apply WL_nil)
|(apply thenQ_normal)
|(apply WC_ret)
|(apply ret3;eq_refl;eq_refl;eq_refl)
|(apply WL_on0;eq_refl)
|(apply X_pv;eq_refl;first|exact trivial|omega))
  refine ⟨hC2, .inr ⟨by rw [e1], w.heap.size + 1, m, by omega, by omega, ?_, rfl, ?_⟩⟩
  · unfold tabM; rw [e1]; exact hl1
  · unfold tabM; rw [e1]; exact hB2
end SC
end Go.Proofs.YtbmngkdnebklpaaGreat
end
section
/- trestleref03: uses. -/
set_option linter.unusedVariables false
set_option linter.unusedSimpArgs false
namespace Go.Proofs.YtbmngkdnebklpaaGreat
namespace SC
open Go.Proofs
section
variable {P : Program} {ty t t0 : TypeId} {e : Env} {w : World} {x y : Operand} {d0 : TypeDesc} {sz by_ sz1 by1 : Nat} {z z1 : Value} {ag ag1 : Bool} {m b o : Nat} {i : Int} {k : IntKind}
theorem does_indexA [U : Ty P t (.array m t0) sz1 z1 by1 ag1] [T : Ty P t0 d0 sz z by_ ag] (h : ev e x = some (.pointer (some ⟨b, o, none⟩))) (h1 : ev e y = some (.int k i)) (h0 : 0 ≤ i) (h2 : i < m) : Does P (.indexAddr t x y) ty e w (.pointer (some ⟨b, o + i.toNat * sz, none⟩)) w := by
  intro ρ dst pos af g hρ
  simp [execOp, hρ _ _ h, hρ _ _ h1, Instr.indexAt, Instr.sureAddr, asIntOf, run_underlying U.und, h0, h2, T.size, add_at]
theorem O_indexA {n : Nat} {all : List Oper} {S : World → Prop} {K : Env → World → Prop} {j : Nat} {r : List (Nat × Bool)} {d : Option Tmp} [U : Ty P t (.array m t0) sz1 z1 by1 ag1] [T : Ty P t0 d0 sz z by_ ag] (h : ev e x = some (.pointer (some ⟨b, o, none⟩))) (h1 : ev e y = some (.int k i)) (h0 : 0 ≤ i) (h2 : i < m) (hS : S w)
    (hr : WS P n all S K r (push d (.pointer (some ⟨b, o + i.toNat * sz, none⟩)) e) w) : OX P n all S K j true r d (.indexAddr t x y) ty e w := O_quiet (fun _ _ => does_indexA h h1 h0 h2) hS hr
theorem X_indexA {n : Nat} {all : List Oper} {K : Env → World → Prop} {r : List Oper} {d : Option Tmp} [U : Ty P t (.array m t0) sz1 z1 by1 ag1] [T : Ty P t0 d0 sz z by_ ag] (h : ev e x = some (.pointer (some ⟨b, o, none⟩))) (h1 : ev e y = some (.int k i)) (h0 : 0 ≤ i) (h2 : i < m)
    (hr : WL P n all K r (push d (.pointer (some ⟨b, o + i.toNat * sz, none⟩)) e) w) : WX P n all K r d (.indexAddr t x y) ty e w := X_does (does_indexA h h1 h0 h2) hr
end
theorem goUse_ones {max : Int} {t : Tab} : ∀ (ls : List Int) (k : Nat), (goUse max t (ones ls) k).2 = useM max t ls
  | [], _ => rfl
  | x :: r, k => by
    have h1 : useM max t [x] = useOne max t x := by
      simp only [useM]; split
      · rfl
      · omega
    show (if useM max t [x] ≠ 0 then ((k : Int), useM max t [x]) else goUse max t (ones r) (k + 1)).2 = if useOne max t x ≠ 0 then useOne max t x else useM max t r
    rw [h1]
    split
    · rfl
    · exact goUse_ones r (k + 1)
attribute [local irreducible] WC WL WX WS WO OX Does DoesU Enters CV Pure thenQ blockQ retQ Wants retQC
set_option maxRecDepth 100000
theorem uses_cv' {w : World} {c : Circ} {h js : Hd} {t : Tab} {b n : Nat} (H : CirAt w c h js) (hs : c.Okay) (hm : 0 ≤ c.max ∧ c.max ≤ 16384) (hB : Blk w b 4 ((ut t).map Value.bool)) (hl : (t.length : Int) = c.max + 1) (hn : n = t.length) : CV Tryz.prog 69 [.agg (ccells c h).toArray, .slice (some ⟨b, 0, none⟩) n n] w fun v w' => v = .tuple #[nu (usesM c t).1, nu (usesM c t).2] ∧ Chg w w' none_ := by
  have hI0 : Blk (w.alloc (.cells (ccells c h).toArray 29)) w.heap.size 29 (ccells c h) := Blk.new w _ _
  have hC0 := Chg.alloc w (.cells (ccells c h).toArray 29) none_
  have hlens := hs.lens
  simp only [Circ.lens, List.mem_cons, List.not_mem_nil, or_false] at hlens
  have k2 := hlens _ (.inr (.inl rfl))
  have k3 := hlens _ (.inr (.inr (.inl rfl)))
  have k4 := hlens _ (.inr (.inr (.inr (.inl rfl))))
  have k5 := hlens _ (.inr (.inr (.inr (.inr (.inl rfl)))))
  have k6 := hlens _ (.inr (.inr (.inr (.inr (.inr (.inl rfl))))))
  have k7 := hlens _ (.inr (.inr (.inr (.inr (.inr (.inr (.inl rfl)))))))
  have k8 := hlens _ (.inr (.inr (.inr (.inr (.inr (.inr (.inr (.inl rfl))))))))
  clear hlens
  have hus : ∀ {W : World} {x : Int}, Chg w W none_ → CV Tryz.prog 83 [.agg (ccells c h).toArray, .slice (some ⟨b, 0, none⟩) n n, nu x] W fun v w' => v = nu (useOne c.max t x) ∧ Chg W w' none_ := fun {W x} hW => used_cv (h := h) (hB.chg hW id) hn hm hl
  have hua : ∀ {W : World} {A : Option Addr} {cp : Nat} {ls : List Int}, Chg w W none_ → RowA W icell 1 A ls → ls.length ≤ 9223372036854775807 → CV Tryz.prog 84 [.agg (ccells c h).toArray, .slice (some ⟨b, 0, none⟩) n n, .slice A ls.length cp] W fun v w' => v = .tuple #[nu (goUse c.max t (ones ls) 0).1, nu (useM c.max t ls)] ∧ Chg W w' none_ := fun {W A cp ls} hW R hl1 => by
    have := usedAll_cv (h := h) (cp := cp) (hB.chg hW id) hn hm hl R hl1
    rwa [goUse_ones] at this
  refine enter 128 [4, 5] Tryz.func69 rfl rfl rfl (by decide) rfl ?_
  repeat' (first
|(apply WC_seqK;intro K hK)
|(apply hK;clear hK)
|(apply WC_block)
|(apply WC_region)
|(apply WL_nil)
|(apply thenQ_normal)
|(apply WL_on0;eq_refl)
|(apply X_pv;eq_refl;first|exact trivial|omega)
|(apply X_box;eq_refl))
  refine WC_loop (fun s : Nat => [(1, .slice (some ⟨b, 0, none⟩) n n), (2, pt w.heap.size), (6, nu s)])
    (fun s W => Chg w W none_ ∧ Blk W w.heap.size 29 (ccells c h) ∧ s ≤ c.latches.length ∧ goUse c.max t ((c.latches.map fun x => [x.2.1]).drop s) s = goUse c.max t (c.latches.map fun x => [x.2.1]) 0) (fun s => c.latches.length - s) 0 ⟨rfl, rfl, rfl, trivial⟩ ⟨hC0, hI0, Nat.zero_le _, rfl⟩ ?_
  clear hI0 hC0
  rintro k w1 ⟨hC1, hI1, hk, hgo⟩
  rcases Nat.lt_or_ge k c.latches.length with hlt | hge
  · obtain ⟨p, hp, hpc⟩ := H.latches k hlt
    rw [goUse_step (by simpa using hlt), List.getElem_map] at hgo
    generalize hx : c.latches[k] = x at *
    have e2 : useM c.max t [x.2.1] = useOne c.max t x.2.1 := by
      simp only [useM]; split
      · rfl
      · omega
    rw [e2] at hgo
    have e6 : (ccells c h)[0 + 2]? = some (.slice (some p) c.latches.length (h 2).2) := by rw [← hp]; rfl
    repeat' (first
|(apply WC_seqK;intro K hK)
|(apply hK;clear hK)
|(apply WC_block)
|(apply WC_region)
|(apply WL_nil)
|(apply thenQ_normal)
|(apply WC_skip)
|(apply WC_if_true;eq_refl)
|(apply WL_on0;eq_refl)
|(apply X_pv;eq_refl;first|exact trivial|omega)
|(apply X_field;eq_refl)
|(apply X_loadR;eq_refl;(first|assumption|(apply Blk.alloc;assumption)|apply Blk.new|apply Blk.newA|(apply Blk.alloc;first|apply Blk.newA|(apply Blk.alloc;first|assumption|apply Blk.newA)));eq_refl)
|(apply X_cmpT;eq_refl;eq_refl;omega)
|(apply X_len;eq_refl))
    refine WC_draws [(0, true), (1, true), (2, true), (3, true), (4, true), (5, true), (6, true), (7, true), (8, false), (9, true)] (fun W => Chg w W none_ ∧ Blk W w.heap.size 29 (ccells c h)) mixed (by kernel_rfl) (by kernel_rfl) ?_
    have hS : Chg w w1.drew none_ ∧ Blk w1.drew w.heap.size 29 (ccells c h) := ⟨hC1.dr, hI1⟩
    repeat' (first
|(apply O_loadW;eq_refl;(exact fun _ h => h.2);eq_refl;assumption)
|(apply O_loadR;eq_refl;(exact fun _ h => h.2);exact e6;assumption)
|(apply O_loadC;eq_refl;(exact fun W h => cel_chg (hpc 1 _ rfl) h.1 id);assumption)
|(apply O_fn;eq_refl;exact hus hS.1;rintro _ w3 ⟨rfl, hC3⟩;have hS3 : Chg w w3 none_ ∧ Blk w3 w.heap.size 29 (ccells c h) := ⟨hS.1.trans hC3 fun k hk hh => hh, hS.2.chg hC3 id⟩;refine ⟨fun _ => hS3, ?_⟩)
|(apply WC_seqK;intro K hK)
|(apply hK;clear hK)
|(apply WC_region)
|(apply WL_nil)
|(apply thenQ_normal)
|(apply thenQ_ret)
|(apply blockQ_ret)
|(apply blockQ_normal)
|(apply WC_ret)
|(apply WC_skip)
|(apply WC_if_true;eq_refl)
|(apply WC_if_false;eq_refl)
|(apply ret2;eq_refl;eq_refl)
|(apply WS_nil)
|(apply WS_next;eq_refl)
|(apply WO_on0;eq_refl)
|(apply O_pv;eq_refl;(first|exact trivial|omega);(first|assumption|exact trivial))
|(apply O_field;eq_refl;(first|assumption|exact trivial))
|(apply O_indexP;eq_refl;eq_refl;omega;omega;(first|assumption|exact trivial))
|(apply O_fieldP;eq_refl;(first|assumption|exact trivial))
|(apply WL_on0;eq_refl)
|(apply X_pv;eq_refl;first|exact trivial|omega)
|(apply X_cmp;eq_refl;eq_refl;all_goals intro _))
    · rw [if_pos (by assumption)] at hgo
      have e : usesM c t = goUse c.max t (c.latches.map fun x => [x.2.1]) 0 := thenE_err (by rw [← hgo]; assumption)
      rw [e, ← hgo]
      exact ⟨rfl, hS3.1⟩
    · rw [if_neg (by assumption)] at hgo
      exact ⟨k + 1, ⟨rfl, rfl, rfl, trivial⟩, ⟨hS3.1, hS3.2, hlt, hgo⟩, by omega⟩
  rw [List.drop_eq_nil_of_le (by simpa using hge)] at hgo
  have E1 : usesM c t = restOf c.max t (thenE (goUse c.max t c.justice 0) (thenE (goUse c.max t (ones c.fairness) 0) (goUse c.max t (c.ands.map fun x => [x.2.1, x.2.2]) 0))) [c.outputs, c.bads, c.constraints] := thenE_ok (by rw [← hgo]; rfl)
  clear hgo
  repeat' (first
|(apply X_loadR;eq_refl;exact hI1;eq_refl)
|(apply WC_seqK;intro K hK)
|(apply hK;clear hK)
|(clear hK;apply hK;clear hK)
|(apply WC_region)
|(apply WL_nil)
|(apply thenQ_normal)
|(apply thenQ_exit)
|(apply blockQ_hit)
|(apply WC_exit)
|(apply WC_if_false;eq_refl)
|(apply WL_on0;eq_refl)
|(apply X_pv;eq_refl;first|exact trivial|omega)
|(apply X_field;eq_refl)
|(apply X_cmpF;eq_refl;eq_refl;omega)
|(apply X_len;eq_refl)
|(apply X_alloc)
|(apply X_pure;apply build140_0_1_2 <;> eq_refl))
  clear hge hk
  refine X_doesU (does_storeA (t1 := 140) (vs := [slc h 3 c.outputs.length, slc h 4 c.bads.length, slc h 5 c.constraints.length]) (o := 0) (b := w1.heap.size) (by eq_refl) (by eq_refl) (Blk.newA w1 _ _) rfl (by exact Nat.le_refl 3) (by simp [slc, Value.oneCell'])) ?_
  have hb1 : w.heap.size + 1 ≤ w1.heap.size := hI1.lt
  have hcc : Chg w1 ((w1.alloc (.cells #[.slice none 0 0, .slice none 0 0, .slice none 0 0] 140)).setRow w1.heap.size [slc h 3 c.outputs.length, slc h 4 c.bads.length, slc h 5 c.constraints.length].toArray) none_ := (Chg.alloc w1 _ none_).trans (Chg.setRow _ w1.heap.size _ (S := fun k => k = w1.heap.size) rfl) fun k hk h => by omega
  refine WL_turn (fun W => Chg w W none_ ∧ Blk W w.heap.size 29 (ccells c h) ∧ Blk W w1.heap.size 140 [slc h 3 c.outputs.length, slc h 4 c.bads.length, slc h 5 c.constraints.length]) ⟨hC1.trans hcc fun _ _ h => h, hI1.chg hcc id, (Blk.newA w1 _ 140).set [slc h 3 c.outputs.length, slc h 4 c.bads.length, slc h 5 c.constraints.length]⟩ ?_
  clear hcc hC1 hI1
  generalize w1.heap.size = b8 at *
  rintro w2 ⟨hC2, hI2, hA2⟩
  repeat' (first
|(apply WC_seqK;intro K hK)
|(apply hK;clear hK)
|(apply WC_block)
|(apply WC_region)
|(apply WL_nil)
|(apply thenQ_normal)
|(apply WL_on0;eq_refl)
|(apply X_pv;eq_refl;first|exact trivial|omega))
  refine WC_loop (fun s : Nat => [(1, .slice (some ⟨b, 0, none⟩) n n), (2, pt w.heap.size), (8, pt b8), (9, nu s)])
    (fun s W => Chg w W none_ ∧ Blk W w.heap.size 29 (ccells c h) ∧ Blk W b8 140 [slc h 3 c.outputs.length, slc h 4 c.bads.length, slc h 5 c.constraints.length] ∧ s ≤ 3 ∧ usesM c t = restOf c.max t (thenE (goUse c.max t c.justice 0) (thenE (goUse c.max t (ones c.fairness) 0) (goUse c.max t (c.ands.map fun x => [x.2.1, x.2.2]) 0))) ([c.outputs, c.bads, c.constraints].drop s)) (fun s => 3 - s) 0 ⟨rfl, rfl, rfl, rfl, trivial⟩ ⟨hC2, hI2, hA2, Nat.zero_le _, E1⟩ ?_
  clear hC2 hI2 hA2 E1
  rintro k w1 ⟨hC1, hI1, hA1, hk, hgo⟩
  rcases Nat.lt_or_ge k 3 with hlt | hge
  · obtain ⟨A, cp, ls, e7, hR, hls, hdr⟩ : ∃ A cp ls, [slc h 3 c.outputs.length, slc h 4 c.bads.length, slc h 5 c.constraints.length][0 + (k : Int).toNat * 1]? = some (.slice A (List.length ls) cp) ∧ RowA w icell 1 A ls ∧ ls.length ≤ 9223372036854775807 ∧ [c.outputs, c.bads, c.constraints].drop k = ls :: [c.outputs, c.bads, c.constraints].drop (k + 1) := by
      match k, hlt with
      | 0, _ => exact ⟨_, _, c.outputs, rfl, H.outputs, by omega, rfl⟩
      | 1, _ => exact ⟨_, _, c.bads, rfl, H.bads, by omega, rfl⟩
      | 2, _ => exact ⟨_, _, c.constraints, rfl, H.constraints, by omega, rfl⟩
    rw [hdr] at hgo
    repeat' (first
|(apply WC_seqK;intro K hK)
|(apply hK;clear hK)
|(apply WC_block)
|(apply WC_region)
|(apply WL_nil)
|(apply thenQ_normal)
|(apply WC_skip)
|(apply WC_if_true;eq_refl)
|(apply WL_on0;eq_refl)
|(apply X_pv;eq_refl;first|exact trivial|omega)
|(apply X_cmpT;eq_refl;eq_refl;omega))
    refine WC_draws [(0, true), (1, true), (2, true), (3, true), (4, true), (5, false), (6, true), (7, true), (8, true), (9, true), (10, true)] (fun W => Chg w W none_ ∧ Blk W w.heap.size 29 (ccells c h) ∧ Blk W b8 140 [slc h 3 c.outputs.length, slc h 4 c.bads.length, slc h 5 c.constraints.length]) mixed (by kernel_rfl) (by kernel_rfl) ?_
    have hS : Chg w w1.drew none_ ∧ Blk w1.drew w.heap.size 29 (ccells c h) ∧ Blk w1.drew b8 140 [slc h 3 c.outputs.length, slc h 4 c.bads.length, slc h 5 c.constraints.length] := ⟨hC1.dr, hI1, hA1⟩
    repeat' (first
|(apply O_loadW;eq_refl;(exact fun _ h => h.2.1);eq_refl;assumption)
|(apply O_indexA;eq_refl;eq_refl;omega;omega;assumption)
|(apply O_loadR;eq_refl;(exact fun _ h => h.2.2);exact e7;assumption)
|(apply O_fn;eq_refl;(exact hua hS.1 (hR.chg hS.1) hls);rintro _ w3 ⟨rfl, hC3⟩;have hS3 : Chg w w3 none_ ∧ Blk w3 w.heap.size 29 (ccells c h) ∧ Blk w3 b8 140 [slc h 3 c.outputs.length, slc h 4 c.bads.length, slc h 5 c.constraints.length] := ⟨hS.1.trans hC3 fun k hk hh => hh, hS.2.1.chg hC3 id, hS.2.2.chg hC3 id⟩;refine ⟨fun _ => hS3, ?_⟩)
|(apply WC_seqK;intro K hK)
|(apply hK;clear hK)
|(apply WC_region)
|(apply WL_nil)
|(apply thenQ_normal)
|(apply thenQ_ret)
|(apply blockQ_ret)
|(apply blockQ_normal)
|(apply WC_ret)
|(apply WC_skip)
|(apply WC_if_true;eq_refl)
|(apply WC_if_false;eq_refl)
|(apply ret2;eq_refl;eq_refl)
|(apply WS_nil)
|(apply WS_next;eq_refl)
|(apply WO_on0;eq_refl)
|(apply O_pv;eq_refl;(first|exact trivial|omega);(first|assumption|exact trivial))
|(apply WL_on0;eq_refl)
|(apply X_pv;eq_refl;first|exact trivial|omega)
|(apply X_cmp;eq_refl;eq_refl;all_goals intro _))
    · have e : usesM c t = goUse c.max t (ones ls) 0 := hgo.trans (thenE_err (by rw [goUse_ones]; assumption))
      rw [e, goUse_ones]
      exact ⟨rfl, hS3.1⟩
    · exact ⟨k + 1, ⟨rfl, rfl, rfl, rfl, trivial⟩, ⟨hS3.1, hS3.2.1, hS3.2.2, hlt, hgo.trans (thenE_ok (by rw [goUse_ones]; omega))⟩, by omega⟩
  obtain rfl : k = 3 := by omega
  replace hgo : usesM c t = thenE (goUse c.max t c.justice 0) (thenE (goUse c.max t (ones c.fairness) 0) (goUse c.max t (c.ands.map fun x => [x.2.1, x.2.2]) 0)) := hgo
  repeat' (first
|(apply WC_seqK;intro K hK)
|(apply hK;clear hK)
|(clear hK;apply hK;clear hK)
|(apply WC_block)
|(apply WC_region)
|(apply WL_nil)
|(apply thenQ_normal)
|(apply thenQ_exit)
|(apply blockQ_hit)
|(apply WC_exit)
|(apply WC_if_false;eq_refl)
|(apply WL_on0;eq_refl)
|(apply X_pv;eq_refl;first|exact trivial|omega)
|(apply X_cmpF;eq_refl;eq_refl;omega))
  clear hge hk hA1
  have E2 := hgo
  clear hgo
  refine WC_loop (fun s : Nat => [(1, .slice (some ⟨b, 0, none⟩) n n), (2, pt w.heap.size), (12, nu s)])
    (fun s W => Chg w W none_ ∧ Blk W w.heap.size 29 (ccells c h) ∧ s ≤ c.justice.length ∧ goUse c.max t (c.justice.drop s) s = goUse c.max t c.justice 0) (fun s => c.justice.length - s) 0 ⟨rfl, rfl, rfl, trivial⟩ ⟨hC1, hI1, Nat.zero_le _, rfl⟩ ?_
  clear hI1 hC1
  rintro k w1 ⟨hC1, hI1, hk, hgo⟩
  rcases Nat.lt_or_ge k c.justice.length with hlt | hge
  · obtain ⟨p, hp, hpc⟩ := H.justice k hlt
    have hR := H.each k hlt
    have hls := hs.just _ (List.getElem_mem hlt)
    rw [goUse_step hlt] at hgo
    generalize hx : c.justice[k] = ls at *
    have e6 : (ccells c h)[0 + 6]? = some (.slice (some p) c.justice.length (h 6).2) := by rw [← hp]; rfl
    repeat' (first
|(apply WC_seqK;intro K hK)
|(apply hK;clear hK)
|(apply WC_block)
|(apply WC_region)
|(apply WL_nil)
|(apply thenQ_normal)
|(apply WC_skip)
|(apply WC_if_true;eq_refl)
|(apply WL_on0;eq_refl)
|(apply X_pv;eq_refl;first|exact trivial|omega)
|(apply X_field;eq_refl)
|(apply X_loadR;eq_refl;(first|assumption|(apply Blk.alloc;assumption)|apply Blk.new|apply Blk.newA|(apply Blk.alloc;first|apply Blk.newA|(apply Blk.alloc;first|assumption|apply Blk.newA)));eq_refl)
|(apply X_cmpT;eq_refl;eq_refl;omega)
|(apply X_len;eq_refl))
    refine WC_draws [(0, true), (1, true), (2, true), (3, true), (4, true), (5, true), (6, true), (7, false), (8, true), (9, true), (10, true), (11, true), (12, true)] (fun W => Chg w W none_ ∧ Blk W w.heap.size 29 (ccells c h)) mixed (by kernel_rfl) (by kernel_rfl) ?_
    have hS : Chg w w1.drew none_ ∧ Blk w1.drew w.heap.size 29 (ccells c h) := ⟨hC1.dr, hI1⟩
    repeat' (first
|(apply O_loadW;eq_refl;(exact fun _ h => h.2);eq_refl;assumption)
|(apply O_loadR;eq_refl;(exact fun _ h => h.2);exact e6;assumption)
|(apply O_loadC;eq_refl;(exact fun W h => cel_chg hpc h.1 id);assumption)
|(apply O_fn;eq_refl;(exact hua hS.1 (hR.chg hS.1) hls);rintro _ w3 ⟨rfl, hC3⟩;have hS3 : Chg w w3 none_ ∧ Blk w3 w.heap.size 29 (ccells c h) := ⟨hS.1.trans hC3 fun k hk hh => hh, hS.2.chg hC3 id⟩;refine ⟨fun _ => hS3, ?_⟩)
|(apply WC_seqK;intro K hK)
|(apply hK;clear hK)
|(apply WC_region)
|(apply WL_nil)
|(apply thenQ_normal)
|(apply thenQ_ret)
|(apply blockQ_ret)
|(apply blockQ_normal)
|(apply WC_ret)
|(apply WC_skip)
|(apply WC_if_true;eq_refl)
|(apply WC_if_false;eq_refl)
|(apply ret2;eq_refl;eq_refl)
|(apply WS_nil)
|(apply WS_next;eq_refl)
|(apply WO_on0;eq_refl)
|(apply O_pv;eq_refl;(first|exact trivial|omega);(first|assumption|exact trivial))
|(apply O_field;eq_refl;(first|assumption|exact trivial))
|(apply O_indexP;eq_refl;eq_refl;omega;omega;(first|assumption|exact trivial))
|(apply WL_on0;eq_refl)
|(apply X_pv;eq_refl;first|exact trivial|omega)
|(apply X_cmp;eq_refl;eq_refl;all_goals intro _))
    · rw [if_pos (by assumption)] at hgo
      have e : usesM c t = goUse c.max t c.justice 0 := E2.trans (thenE_err (by rw [← hgo]; assumption))
      rw [e, ← hgo]
      exact ⟨rfl, hS3.1⟩
    · rw [if_neg (by assumption)] at hgo
      exact ⟨k + 1, ⟨rfl, rfl, rfl, trivial⟩, ⟨hS3.1, hS3.2, hlt, hgo⟩, by omega⟩
  rw [List.drop_eq_nil_of_le hge] at hgo
  have E3 : usesM c t = thenE (goUse c.max t (ones c.fairness) 0) (goUse c.max t (c.ands.map fun x => [x.2.1, x.2.2]) 0) := E2.trans (thenE_ok (by rw [← hgo]; rfl))
  clear hgo E2
  repeat' (first
|(apply X_fn;eq_refl;(exact hua hC1 (H.chg hC1).fairness (by omega));rintro _ w3 ⟨rfl, hC3⟩)
|(apply WC_seqK;intro K hK)
|(apply hK;clear hK)
|(clear hK;apply hK;clear hK)
|(apply WC_block)
|(apply WC_region)
|(apply WL_nil)
|(apply thenQ_normal)
|(apply thenQ_ret)
|(apply thenQ_exit)
|(apply blockQ_hit)
|(apply WC_ret)
|(apply WC_exit)
|(apply WC_skip)
|(apply WC_if_true;eq_refl)
|(apply WC_if_false;eq_refl)
|(apply ret2;eq_refl;eq_refl)
|(apply WL_on0;eq_refl)
|(apply X_pv;eq_refl;first|exact trivial|omega)
|(apply X_field;eq_refl)
|(apply X_loadR;eq_refl;(first|assumption|(apply Blk.alloc;assumption)|apply Blk.new|apply Blk.newA|(apply Blk.alloc;first|apply Blk.newA|(apply Blk.alloc;first|assumption|apply Blk.newA)));eq_refl)
|(apply X_loadW;eq_refl;(first|assumption|(apply Blk.alloc;assumption)|apply Blk.new|apply Blk.newA|(apply Blk.alloc;first|apply Blk.newA|(apply Blk.alloc;first|assumption|apply Blk.newA)));eq_refl)
|(apply X_cmpF;eq_refl;eq_refl;omega)
|(apply X_cmp;eq_refl;eq_refl;all_goals intro _)
|(apply X_len;eq_refl))
  · have e : usesM c t = goUse c.max t (ones c.fairness) 0 := E3.trans (thenE_err (by rw [goUse_ones]; assumption))
    rw [e, goUse_ones]
    exact ⟨rfl, hC1.trans hC3 fun _ _ h => h⟩
  have E4 : usesM c t = goUse c.max t (c.ands.map fun x => [x.2.1, x.2.2]) 0 := E3.trans (thenE_ok (by rw [goUse_ones]; omega))
  clear E3 hge hk
  refine WC_loop (fun s : Nat => [(1, .slice (some ⟨b, 0, none⟩) n n), (2, pt w.heap.size), (17, nu s)])
    (fun s W => Chg w W none_ ∧ Blk W w.heap.size 29 (ccells c h) ∧ s ≤ c.ands.length ∧ goUse c.max t ((c.ands.map fun x => [x.2.1, x.2.2]).drop s) s = goUse c.max t (c.ands.map fun x => [x.2.1, x.2.2]) 0) (fun s => c.ands.length - s) 0 ⟨rfl, rfl, rfl, trivial⟩ ⟨hC1.trans hC3 fun _ _ h => h, hI1.chg hC3 id, Nat.zero_le _, rfl⟩ ?_
  clear hI1 hC1 hC3 w3
  rintro k w1 ⟨hC1, hI1, hk, hgo⟩
  rcases Nat.lt_or_ge k c.ands.length with hlt | hge
  · obtain ⟨p, hp, hpc⟩ := H.ands k hlt
    rw [goUse_step (by simpa using hlt), List.getElem_map] at hgo
    generalize hx : c.ands[k] = x at *
    have e6 : (ccells c h)[0 + 8]? = some (.slice (some p) c.ands.length (h 8).2) := by rw [← hp]; rfl
    repeat' (first
|(apply WC_seqK;intro K hK)
|(apply hK;clear hK)
|(apply WC_block)
|(apply WC_region)
|(apply WL_nil)
|(apply thenQ_normal)
|(apply WC_skip)
|(apply WC_if_true;eq_refl)
|(apply WL_on0;eq_refl)
|(apply X_pv;eq_refl;first|exact trivial|omega)
|(apply X_field;eq_refl)
|(apply X_loadR;eq_refl;(first|assumption|(apply Blk.alloc;assumption)|apply Blk.new|apply Blk.newA|(apply Blk.alloc;first|apply Blk.newA|(apply Blk.alloc;first|assumption|apply Blk.newA)));eq_refl)
|(apply X_cmpT;eq_refl;eq_refl;omega)
|(apply X_len;eq_refl))
    refine WC_draws [(0, true), (1, true), (2, true), (3, true), (4, true), (5, true), (6, true), (7, true), (8, true), (9, true), (10, true), (11, true), (12, true), (13, true), (14, false), (15, false), (16, true), (17, true), (18, true), (19, true), (20, true)] (fun W => Chg w W none_ ∧ Blk W w.heap.size 29 (ccells c h)) mixed (by kernel_rfl) (by kernel_rfl) ?_
    have hS : Chg w w1.drew none_ ∧ Blk w1.drew w.heap.size 29 (ccells c h) := ⟨hC1.dr, hI1⟩
    have hSa : Chg w (w1.drew.alloc (.cells #[nu x.2.1, nu x.2.2] 3)) none_ ∧ Blk (w1.drew.alloc (.cells #[nu x.2.1, nu x.2.2] 3)) w.heap.size 29 (ccells c h) := ⟨hS.1.al _, hS.2.alloc _⟩
    have hone := hua (cp := 2) (ls := [x.2.1, x.2.2]) hSa.1 (RowA.lit w1.drew [x.2.1, x.2.2]) (by simp)
    repeat' (first
|(apply O_loadW;eq_refl;(exact fun _ h => h.2);eq_refl;assumption)
|(apply O_loadR;eq_refl;(exact fun _ h => h.2);exact e6;assumption)
|(apply O_loadC;eq_refl;(exact fun W h => cel_chg (hpc 1 _ rfl) h.1 id);assumption)
|(apply O_loadC;eq_refl;(exact fun W h => cel_chg (hpc 2 _ rfl) h.1 id);assumption)
|(apply O_does;(apply buildS22_2 <;> eq_refl);exact (fun _ => hSa))
|(apply O_fn;eq_refl;exact hone;rintro _ w3 ⟨rfl, hC3⟩;have hS3 : Chg w w3 none_ ∧ Blk w3 w.heap.size 29 (ccells c h) := ⟨hSa.1.trans hC3 fun k hk hh => hh, hSa.2.chg hC3 id⟩;refine ⟨fun _ => hS3, ?_⟩)
|(apply WC_seqK;intro K hK)
|(apply hK;clear hK)
|(apply WC_region)
|(apply WL_nil)
|(apply thenQ_normal)
|(apply thenQ_ret)
|(apply blockQ_ret)
|(apply blockQ_normal)
|(apply WC_ret)
|(apply WC_skip)
|(apply WC_if_true;eq_refl)
|(apply WC_if_false;eq_refl)
|(apply ret2;eq_refl;eq_refl)
|(apply WS_nil)
|(apply WS_next;eq_refl)
|(apply WO_on0;eq_refl)
|(apply O_pv;eq_refl;(first|exact trivial|omega);(first|assumption|exact trivial))
|(apply O_field;eq_refl;(first|assumption|exact trivial))
|(apply O_indexP;eq_refl;eq_refl;omega;omega;(first|assumption|exact trivial))
|(apply O_fieldP;eq_refl;(first|assumption|exact trivial))
|(apply WL_on0;eq_refl)
|(apply X_pv;eq_refl;first|exact trivial|omega)
|(apply X_cmp;eq_refl;eq_refl;all_goals intro _))
    · rw [if_pos (by assumption)] at hgo
      rw [E4, ← hgo]
      exact ⟨rfl, hS3.1⟩
    · rw [if_neg (by assumption)] at hgo
      exact ⟨k + 1, ⟨rfl, rfl, rfl, trivial⟩, ⟨hS3.1, hS3.2, hlt, hgo⟩, by omega⟩
  rw [List.drop_eq_nil_of_le (by simpa using hge)] at hgo
  repeat' (first
|(apply WC_seqK;intro K hK)
|(apply hK;clear hK)
|(clear hK;apply hK;clear hK)
|(apply WC_region)
|(apply WL_nil)
|(apply thenQ_normal)
|(apply thenQ_exit)
|(apply blockQ_hit)
|(apply WC_ret)
|(apply WC_exit)
|(apply WC_if_false;eq_refl)
|(apply ret2;eq_refl;eq_refl)
|(apply WL_on0;eq_refl)
|(apply X_pv;eq_refl;first|exact trivial|omega)
|(apply X_field;eq_refl)
|(apply X_loadR;eq_refl;(first|assumption|(apply Blk.alloc;assumption)|apply Blk.new|apply Blk.newA|(apply Blk.alloc;first|apply Blk.newA|(apply Blk.alloc;first|assumption|apply Blk.newA)));eq_refl)
|(apply X_cmpF;eq_refl;eq_refl;omega)
|(apply X_len;eq_refl))
  rw [E4, ← hgo]
  exact ⟨rfl, hC1⟩
end SC
end Go.Proofs.YtbmngkdnebklpaaGreat
end
section
/- trestleref03: gates. -/
set_option linter.unusedVariables false
set_option linter.unusedSimpArgs false
namespace Go.Proofs.YtbmngkdnebklpaaGreat
namespace SC
open Go.Proofs
/-- What a gate asks for: a literal's gate, or none. -/
theorem TabOk.lit {c : Circ} {t : Tab} (hT : TabOk c t) (hU : UseAll c t) {i : Int} (hi : rg c.ands.length i) {l : Int} (hl : l = (andAt c i).2.1 ∨ l = (andAt c i).2.2) :
    0 ≤ l ∧ l ≤ 2 * c.max + 1 ∧ ((kindAt t (l / 2) = 3 ∧ L (SC.gatesM c) (l / 2) = atOf t (l / 2) ∧ rg c.ands.length (atOf t (l / 2)) ∧ atOf t (l / 2) ∈ gateB t c i) ∨ (kindAt t (l / 2) ≠ 3 ∧ L (SC.gatesM c) (l / 2) = -1)) := by
  have hlt : i.toNat < c.ands.length := by unfold rg at hi; omega
  have e : andAt c i = c.ands[i.toNat] := by unfold andAt; simp [hlt]
  have hu := hU.ands _ (List.getElem_mem hlt)
  rw [← e] at hu
  have h0 : 0 ≤ l ∧ l ≤ 2 * c.max + 1 := by
    rcases hl with rfl | rfl
    · exact ⟨hu.1.1, hu.1.2.1⟩
    · exact ⟨hu.2.1, hu.2.2.1⟩
  refine ⟨h0.1, h0.2, ?_⟩
  have hr : rg (c.max + 1).toNat (l / 2) := by unfold rg; omega
  have hg := hT.gatesM hr
  by_cases hk : kindAt t (l / 2) = 3
  · rw [if_pos hk] at hg
    have hm : atOf t (l / 2) ∈ gateB t c i := (mem_gateB hi).2 ⟨l, hl, hk, rfl⟩
    exact .inl ⟨hk, hg, hT.below hU i hi _ hm, hm⟩
  · rw [if_neg hk] at hg
    exact .inr ⟨hk, hg⟩
attribute [local irreducible] WC WL WX WS WO OX Does DoesU Enters CV Pure thenQ blockQ retQ Wants retQC
set_option maxRecDepth 100000
theorem gates80_cv {w : World} {c : Circ} {h js : Hd} {t : Tab} (H : CirAt w c h js) (hT : TabOk c t) (hm : 0 ≤ c.max ∧ c.max ≤ 16384) (hn : c.ands.length ≤ 16384) : CV Tryz.prog 70 [.agg (ccells c h).toArray] w fun v w' => v = .slice (some ⟨w.heap.size + 1, 0, none⟩) (gatesM c).length (gatesM c).length ∧ Blk w' (w.heap.size + 1) 3 ((gatesM c).map nu) ∧ Chg w w' none_ := by
  obtain ⟨m, hm2⟩ : ∃ m : Nat, c.max + 1 = m := ⟨(c.max + 1).toNat, by omega⟩
  have hml : (c.max + 1).toNat = m := by omega
  have hI0 : Blk (w.alloc (.cells (ccells c h).toArray 29)) w.heap.size 29 (ccells c h) := Blk.new w _ _
  have hC0 := Chg.alloc w (.cells (ccells c h).toArray 29) none_
  have hz0 := sz_alloc w (.cells (ccells c h).toArray 29)
  refine enter 37 [2] Tryz.func70 rfl rfl rfl (by decide) rfl ?_
  repeat' (first
|(apply WC_seqK;intro K hK)
|(apply hK;clear hK)
|(apply WC_region)
|(apply WL_nil)
|(apply thenQ_normal)
|(apply WL_on0;eq_refl)
|(apply X_pv;eq_refl;first|exact trivial|omega)
|(apply X_field;eq_refl)
|(apply X_loadR;eq_refl;(first|assumption|(apply Blk.alloc;assumption)|apply Blk.new|apply Blk.newA|(apply Blk.alloc;first|apply Blk.newA|(apply Blk.alloc;first|assumption|apply Blk.newA)));eq_refl)
|(apply X_box;eq_refl))
  rw [hm2]
  repeat' (first
|(apply X_make;eq_refl;omega;omega)
|(apply WC_seqK;intro K hK)
|(apply hK;clear hK)
|(apply WC_block)
|(apply WC_region)
|(apply WL_nil)
|(apply thenQ_normal)
|(apply WL_on0;eq_refl)
|(apply X_pv;eq_refl;first|exact trivial|omega))
  have e1 : (madeCells (Value.int .i64 0).cells (m * 1)).toList = (List.replicate m (0 : Int)).map nu := by rw [Nat.mul_one, show (Value.int .i64 0).cells = #[nu 0] from rfl, made_one, List.map_replicate]
  have b1 := Blk.newA (w.alloc (.cells (ccells c h).toArray 29)) (madeCells (Value.int .i64 0).cells (m * 1)) 3
  rw [e1, hz0] at b1
  refine WC_loop (fun s : Nat × List Int => [(1, pt w.heap.size), (3, .slice (some ⟨w.heap.size + 1, 0, none⟩) m m), (4, nu s.1)])
    (fun s W => Chg w W none_ ∧ Blk W w.heap.size 29 (ccells c h) ∧ Blk W (w.heap.size + 1) 3 (s.2.map nu) ∧ s.2.length = m ∧ s.2.take s.1 = List.replicate s.1 (-1) ∧ s.1 ≤ m) (fun s => m - s.1) (0, List.replicate m 0) ⟨rfl, congrArg (fun k => some (Value.slice (some ⟨k, 0, none⟩) m m)) hz0, rfl, trivial⟩ ⟨hC0.al _, hI0.alloc _, b1, by simp, by simp, Nat.zero_le _⟩ ?_
  clear b1 hI0 hC0 hz0 e1
  rintro ⟨i, l⟩ w1 ⟨hC1, hI1, hB1, hll, hlt', hi⟩
  simp only at hB1 hll hlt' hi
  rcases Nat.lt_or_ge i m with hlt | hge
  · repeat' (first
|(apply WC_seqK;intro K hK)
|(apply hK;clear hK)
|(apply WC_block)
|(apply WC_region)
|(apply WL_nil)
|(apply thenQ_normal)
|(apply WC_skip)
|(apply WC_if_true;eq_refl)
|(apply WL_on0;eq_refl)
|(apply X_pv;eq_refl;first|exact trivial|omega)
|(apply X_field;eq_refl)
|(apply X_loadR;eq_refl;(first|assumption|(apply Blk.alloc;assumption)|apply Blk.new|apply Blk.newA|(apply Blk.alloc;first|apply Blk.newA|(apply Blk.alloc;first|assumption|apply Blk.newA)));eq_refl)
|(apply X_cmpT;eq_refl;eq_refl;omega)
|(apply X_index;eq_refl;eq_refl;omega;omega))
    refine X_doesU (does_store1 (t1 := 3) (b := w.heap.size + 1) (o := 0 + (i : Int).toNat * 1) (v := nu (-1)) (by eq_refl) (by eq_refl) hB1 (by simp; omega) rfl rfl) ?_
    rw [set_nu, show 0 + (i : Int).toNat * 1 = i by omega]
    have hcc := Chg.setRow w1 (w.heap.size + 1) ((l.set i (-1)).map nu).toArray (S := fun k => k = w.heap.size + 1) rfl
    have hB2 := hB1.set ((l.set i (-1)).map nu)
    repeat' (first
|(apply hK;clear hK)
|(apply WC_region)
|(apply WL_nil)
|(apply thenQ_normal)
|(apply blockQ_normal)
|(apply WL_on0;eq_refl)
|(apply X_pv;eq_refl;first|exact trivial|omega))
    exact ⟨(i + 1, l.set i (-1)), ⟨rfl, rfl, rfl, trivial⟩, ⟨hC1.trans hcc fun k hk hh => by omega, hI1.chg hcc (by omega), hB2, by simp [hll], by rw [take_set_succ _ _ _ (by omega), hlt', List.replicate_succ'], hlt⟩, by simp only; omega⟩
  obtain rfl : i = m := by omega
  rw [List.take_of_length_le (by omega)] at hlt'
  subst hlt'
  repeat' (first
|(apply WC_seqK;intro K hK)
|(apply hK;clear hK)
|(clear hK;apply hK;clear hK)
|(apply WC_block)
|(apply WC_region)
|(apply WL_nil)
|(apply thenQ_normal)
|(apply thenQ_exit)
|(apply blockQ_hit)
|(apply WC_exit)
|(apply WC_if_false;eq_refl)
|(apply WL_on0;eq_refl)
|(apply X_pv;eq_refl;first|exact trivial|omega)
|(apply X_field;eq_refl)
|(apply X_loadR;eq_refl;(first|assumption|(apply Blk.alloc;assumption)|apply Blk.new|apply Blk.newA|(apply Blk.alloc;first|apply Blk.newA|(apply Blk.alloc;first|assumption|apply Blk.newA)));eq_refl)
|(apply X_cmpF;eq_refl;eq_refl;omega))
  refine WC_loop (fun s : Nat × List Int => [(1, pt w.heap.size), (3, .slice (some ⟨w.heap.size + 1, 0, none⟩) i i), (5, nu s.1)])
    (fun s W => Chg w W none_ ∧ Blk W w.heap.size 29 (ccells c h) ∧ Blk W (w.heap.size + 1) 3 (s.2.map nu) ∧ s.2.length = i ∧ gatesL (c.ands.drop s.1) s.1 s.2 = gatesM c ∧ s.1 ≤ c.ands.length) (fun s => c.ands.length - s.1) (0, List.replicate i (-1)) ⟨rfl, rfl, rfl, trivial⟩ ⟨hC1, hI1, hB1, by simp, by unfold gatesM; rw [hml]; rfl, Nat.zero_le _⟩ ?_
  clear hI1 hB1 hC1 hll
  rintro ⟨k, l⟩ w1 ⟨hC1, hI1, hB1, hll, hgo, hk⟩
  simp only at hB1 hll hgo hk
  rcases Nat.lt_or_ge k c.ands.length with hlt | hge
  · obtain ⟨p, hp, hpc⟩ := (H.chg hC1).ands k hlt
    have hdb := (hT.gat k hlt).1
    rw [gatesL_step hlt] at hgo
    generalize hx : c.ands[k] = x at *
    have hx2 : 0 ≤ x.1 / 2 ∧ x.1 / 2 < i ∧ 0 ≤ x.1 ∧ x.1 ≤ 100000 := by unfold defBad at hdb; omega
    have e6 : (ccells c h)[0 + 8]? = some (.slice (some p) c.ands.length (h 8).2) := by rw [← hp]; rfl
    repeat' (first
|(apply X_loadR;eq_refl;exact hI1;exact e6)
|(apply X_loadC;eq_refl;exact (hpc 0 _ rfl))
|(apply WC_seqK;intro K hK)
|(apply hK;clear hK)
|(apply WC_block)
|(apply WC_region)
|(apply WL_nil)
|(apply thenQ_normal)
|(apply WC_skip)
|(apply WC_if_true;eq_refl)
|(apply WL_on0;eq_refl)
|(apply X_pv;eq_refl;first|exact trivial|omega)
|(apply X_field;eq_refl)
|(apply X_cmpT;eq_refl;eq_refl;omega)
|(apply X_len;eq_refl)
|(apply X_index;eq_refl;eq_refl;omega;omega)
|(apply X_indexP;eq_refl;eq_refl;omega;omega)
|(apply X_fieldP;eq_refl))
    refine X_doesU (does_store1 (t1 := 3) (b := w.heap.size + 1) (o := 0 + (x.1 / 2).toNat * 1) (v := nu k) (by eq_refl) (by eq_refl) hB1 (by simp; omega) rfl rfl) ?_
    rw [set_nu, show 0 + (x.1 / 2).toNat * 1 = (x.1 / 2).toNat by omega]
    have hcc := Chg.setRow w1 (w.heap.size + 1) ((l.set (x.1 / 2).toNat k).map nu).toArray (S := fun k => k = w.heap.size + 1) rfl
    have hB3 := hB1.set ((l.set (x.1 / 2).toNat k).map nu)
    repeat' (first
|(apply hK;clear hK)
|(apply WC_region)
|(apply WL_nil)
|(apply thenQ_normal)
|(apply blockQ_normal)
|(apply WL_on0;eq_refl)
|(apply X_pv;eq_refl;first|exact trivial|omega))
    exact ⟨(k + 1, l.set (x.1 / 2).toNat k), ⟨rfl, rfl, rfl, trivial⟩, ⟨hC1.trans hcc fun k hk hh => by omega, hI1.chg hcc (by omega), hB3, by simp [hll], hgo, hlt⟩, by simp only; omega⟩
  obtain rfl : k = c.ands.length := by omega
  rw [List.drop_of_length_le (Nat.le_refl _)] at hgo
  have hgo : l = gatesM c := hgo
  subst hgo
  have hgl : (gatesM c).length = i := hll
  repeat' (first
|(apply WC_seqK;intro K hK)
|(apply hK;clear hK)
|(clear hK;apply hK;clear hK)
|(apply WC_region)
|(apply WL_nil)
|(apply thenQ_normal)
|(apply thenQ_exit)
|(apply blockQ_hit)
|(apply WC_ret)
|(apply WC_exit)
|(apply WC_if_false;eq_refl)
|(apply ret1;eq_refl)
|(apply WL_on0;eq_refl)
|(apply X_pv;eq_refl;first|exact trivial|omega)
|(apply X_field;eq_refl)
|(apply X_loadR;eq_refl;(first|assumption|(apply Blk.alloc;assumption)|apply Blk.new|apply Blk.newA|(apply Blk.alloc;first|apply Blk.newA|(apply Blk.alloc;first|assumption|apply Blk.newA)));eq_refl)
|(apply X_cmpF;eq_refl;eq_refl;omega)
|(apply X_len;eq_refl))
  refine ⟨?_, hB1, hC1⟩
  rw [hgl]
end SC
end Go.Proofs.YtbmngkdnebklpaaGreat
end
section
/- trestleref03: told. -/
set_option linter.unusedVariables false
set_option linter.unusedSimpArgs false
namespace Go.Proofs.YtbmngkdnebklpaaGreat
namespace SC
open Go.Proofs
/-- What told keeps in memory: the gates of the variables, which are told, and their row. -/
structure TolSt (w W : World) (c : Circ) (h : Hd) (t : Tab) (g D : Nat) (out : List Int) (dn : List Bool) (vo : Value) : Prop where
  chg : Chg w W none_
  box : Blk W w.heap.size 29 (ccells c h)
  gate : Blk W g 3 ((gatesM c).map nu)
  done : Blk W D 4 (dn.map Value.bool)
  row : W.ownsRow (D + 1) 3 1 vo out.length (out.map nu)
  len : dn.length = c.ands.length
  told : Told c.ands.length (gateB t c) out
  mem : ∀ y, rg c.ands.length y → (Sn dn y = true ↔ y ∈ out)
theorem TolSt.same {w W W' : World} {c : Circ} {h : Hd} {t : Tab} {g D : Nat} {out : List Int} {dn : List Bool} {vo : Value} (S : TolSt w W c h t g D out dn vo) (hc : Chg W W' none_) : TolSt w W' c h t g D out dn vo :=
  ⟨S.chg.trans hc fun _ _ h => h, S.box.chg hc id, S.gate.chg hc id, S.done.chg hc id, own_chg S.row hc fun _ _ => id, S.len, S.told, S.mem⟩
section
variable {P : Program} {n : Nat} {all rest : List Oper} {K : Env → World → Prop} {e : Env} {w : World}
/-- A guard whose slot was left out: not carried out. -/
theorem WL_noU {j : Nat} {b : Bool} {d' : Nat} {d : Option Tmp} {op : Op} {ty : TypeId} {pos : String} {af : Array Edge} (h1 : gslot all j = some d') (h2 : look e d' = some undef) (hd : slotOk n d = true) (hr : WL P n all K rest (push d undef e) w) : WL P n all K (⟨d, op, ty, pos, af, some (j, b)⟩ :: rest) e w := by
  intro a Q ha hQ
  have hw : Region.wanted ⟨d, op, ty, pos, af, some (j, b)⟩ (yielded all.toArray a.tmps) = false := by
    unfold Region.wanted
    have ht := ha.tmps d' _ h2
    have hy : yielded all.toArray a.tmps j = none := by
      unfold yielded
      unfold gslot at h1
      rw [nth_eq] at h1
      have : ((all.toArray[j]?).bind (·.dst)) = some d' := by simpa using h1
      rw [this]
      simp [ht, undef]
    simp only [hy]
    rfl
  unfold wpList
  rw [if_neg (by simp [hw])]
  exact hr _ Q (ha.put d undef hd) hQ
end
attribute [local irreducible] WC WL WX WS WO OX Does DoesU Enters CV Pure thenQ blockQ retQ Wants retQC
set_option maxRecDepth 100000
theorem told_cv {w : World} {c : Circ} {h js : Hd} {t : Tab} (H : CirAt w c h js) (hT : TabOk c t) (hU : UseAll c t) (hm : 0 ≤ c.max ∧ c.max ≤ 16384) (hn : c.ands.length ≤ 16384) : CV Tryz.prog 56 [.agg (ccells c h).toArray] w fun v w' => Chg w w' none_ ∧ ∃ out, All c.ands.length (gateB t c) out ∧ w'.ownsRow w.heap.size 3 1 v out.length (out.map nu) := by
  have hI0 : Blk (w.alloc (.cells (ccells c h).toArray 29)) w.heap.size 29 (ccells c h) := Blk.new w _ _
  have hC0 := Chg.alloc w (.cells (ccells c h).toArray 29) none_
  have hgl := gatesM_len c
  have hga := gates80_cv (H.chg hC0) hT hm hn
  refine enter 74 [2] Tryz.func56 rfl rfl rfl (by decide) rfl ?_
  repeat' (first
|(apply X_fn;eq_refl;exact hga;rintro _ w1 ⟨rfl, hG1, hC1⟩;have hI1 := hI0.chg hC1 id)
|(apply X_make;eq_refl;omega;omega)
|(apply WC_seqK;intro K hK)
|(apply hK;clear hK)
|(apply WC_block)
|(apply WC_region)
|(apply WL_nil)
|(apply thenQ_normal)
|(apply WL_on0;eq_refl)
|(apply X_pv;eq_refl;first|exact trivial|omega)
|(apply X_field;eq_refl)
|(apply X_loadR;eq_refl;(first|assumption|(apply Blk.alloc;assumption)|apply Blk.new|apply Blk.newA|(apply Blk.alloc;first|apply Blk.newA|(apply Blk.alloc;first|assumption|apply Blk.newA)));eq_refl)
|(apply X_loadW;eq_refl;(first|assumption|(apply Blk.alloc;assumption)|apply Blk.new|apply Blk.newA|(apply Blk.alloc;first|apply Blk.newA|(apply Blk.alloc;first|assumption|apply Blk.newA)));eq_refl)
|(apply X_len;eq_refl)
|(apply X_box;eq_refl))
  have hC1' := hC0.trans hC1 fun _ _ h => h
  have hg0 := hG1.lt
  have hg1 : w.heap.size < (w.alloc (.cells (ccells c h).toArray 29)).heap.size + 1 := by simp; omega
  generalize (w.alloc (.cells (ccells c h).toArray 29)).heap.size + 1 = g at *
  have hdm : Blk (w1.alloc (.cells (madeCells (Value.bool false).cells (c.ands.length * 1)) 4)) w1.heap.size 4 ((List.replicate c.ands.length false).map Value.bool) := by
    have e1 : (madeCells (Value.bool false).cells (c.ands.length * 1)).toList = (List.replicate c.ands.length false).map Value.bool := by rw [Nat.mul_one, show (Value.bool false).cells = #[Value.bool false] from rfl, made_one, List.map_replicate]
    have := Blk.newA w1 (madeCells (Value.bool false).cells (c.ands.length * 1)) 4
    rwa [e1] at this
  have hS0 : TolSt w (w1.alloc (.cells (madeCells (Value.bool false).cells (c.ands.length * 1)) 4)) c h t g w1.heap.size [] (List.replicate c.ands.length false) (.slice none 0 0) :=
    ⟨hC1'.al _, hI1.alloc _, hG1.alloc _, hdm, World.ownsRow_nil _ _ _ _, by simp, .nil, fun y _ => by rw [Sn_false]; simp⟩
  generalize w1.alloc (.cells (madeCells (Value.bool false).cells (c.ands.length * 1)) 4) = w2 at *
  generalize w1.heap.size = D at *
  refine WC_loop (fun s : List Int × List Bool × Value × Bool => [(1, pt w.heap.size), (3, .slice (some ⟨g, 0, none⟩) (gatesM c).length (gatesM c).length), (4, .slice (some ⟨D, 0, none⟩) c.ands.length c.ands.length), (5, s.2.2.1), (6, .bool s.2.2.2)])
    (fun s W => TolSt w W c h t g D s.1 s.2.1 s.2.2.1 ∧ (s.2.2.2 = false → All c.ands.length (gateB t c) s.1)) (fun s => 2 * (c.ands.length - s.1.length) + if s.2.2.2 then 1 else 0)
    ([], List.replicate c.ands.length false, .slice none 0 0, true) ⟨rfl, rfl, rfl, rfl, rfl, trivial⟩ ⟨hS0, fun h => (by cases h)⟩ ?_
  clear hS0 hdm hG1 hC1 hI1 hga hI0 hC0 hC1'
  rintro ⟨out, dn, vo, again⟩ w3 ⟨hS3, hal⟩
  simp only at hS3 hal
  cases again with
  | false =>
    repeat' (first
|(apply WC_seqK;intro K hK)
|(apply hK;clear hK)
|(clear hK;apply hK;clear hK)
|(apply WC_region)
|(apply WL_nil)
|(apply thenQ_normal)
|(apply thenQ_exit)
|(apply blockQ_hit)
|(apply WC_ret)
|(apply WC_exit)
|(apply WC_if_false;eq_refl)
|(apply ret1;eq_refl)
|(apply WL_on0;eq_refl)
|(apply X_pv;eq_refl;first|exact trivial|omega))
    exact ⟨hS3.chg, out, hal rfl, own_mono hS3.row (by omega)⟩
  | true =>
    repeat' (first
|(apply WC_seqK;intro K hK)
|(apply hK;clear hK)
|(apply WC_block)
|(apply WC_region)
|(apply WL_nil)
|(apply thenQ_normal)
|(apply WC_skip)
|(apply WC_if_true;eq_refl)
|(apply WL_on0;eq_refl)
|(apply X_pv;eq_refl;first|exact trivial|omega))
    refine WC_loop (fun i : Nat => [(1, pt w.heap.size), (3, .slice (some ⟨g, 0, none⟩) (gatesM c).length (gatesM c).length), (4, .slice (some ⟨D, 0, none⟩) c.ands.length c.ands.length), (5, vo), (6, .bool false), (7, nu i)])
      (fun i W => TolSt w W c h t g D out dn vo ∧ i ≤ c.ands.length ∧ ∀ y, y < (i : Int) → ¬ CanTell c.ands.length (gateB t c) out y) (fun i => c.ands.length - i)
      0 ⟨rfl, rfl, rfl, rfl, rfl, rfl, trivial⟩ ⟨hS3, Nat.zero_le _, fun y hy hc => by have := hc.rg; unfold rg at this; omega⟩ ?_
    clear hS3 hal w3
    rintro i w3 ⟨hS3, hi, hno⟩
    have hbox := hS3.box
    rcases Nat.lt_or_ge i c.ands.length with hlt | hge
    · have hri : rg c.ands.length (i : Int) := ⟨by omega, by omega⟩
      have hdone := hS3.done
      have hcell := Sn_cell (sn := dn) (z := i) (by rw [hS3.len]; exact hri)
      have hmem := hS3.mem i hri
      cases hsi : Sn dn i with
      | true =>
        rw [hsi] at hcell
        repeat' (first
|(apply X_loadR;eq_refl;exact hdone;exact hcell)
|(apply WC_seqK;intro K hK)
|(apply hK;clear hK)
|(clear hK;apply hK;clear hK)
|(apply WC_block)
|(apply WC_region)
|(apply WL_nil)
|(apply thenQ_normal)
|(apply thenQ_exit)
|(apply blockQ_hit)
|(apply WC_exit)
|(apply WC_skip)
|(apply WC_if_true;eq_refl)
|(apply WL_on0;eq_refl)
|(apply X_pv;eq_refl;first|exact trivial|omega)
|(apply X_field;eq_refl)
|(apply X_loadR;eq_refl;(first|assumption|(apply Blk.alloc;assumption)|apply Blk.new|apply Blk.newA|(apply Blk.alloc;first|apply Blk.newA|(apply Blk.alloc;first|assumption|apply Blk.newA)));eq_refl)
|(apply X_cmpT;eq_refl;eq_refl;omega)
|(apply X_len;eq_refl)
|(apply X_index;eq_refl;eq_refl;omega;omega))
        refine ⟨i + 1, ⟨rfl, rfl, rfl, rfl, rfl, rfl, trivial⟩, ⟨hS3, hlt, fun y hy hc => ?_⟩, by omega⟩
        rcases Int.lt_or_le y (i : Int) with h1 | h1
        · exact hno y h1 hc
        · have : y = i := by omega
          subst this
          exact hc.new (hmem.1 hsi)
      | false =>
        rw [hsi] at hcell hmem
        have hnew : (i : Int) ∉ out := fun hh => by have := hmem.2 hh; cases this
        obtain ⟨p, hp, hpc⟩ := H.ands i hlt
        have hle := hT.lit hU hri (.inl rfl)
        have hri' := hT.lit hU hri (.inr rfl)
        have hx : andAt c i = c.ands[i] := by unfold andAt; simp [hlt]
        rw [hx] at hle hri'
        generalize hxx : c.ands[i] = x at *
        have hmB : ∀ z, z ∈ gateB t c i ↔ (kindAt t (x.2.1 / 2) = 3 ∧ atOf t (x.2.1 / 2) = z) ∨ (kindAt t (x.2.2 / 2) = 3 ∧ atOf t (x.2.2 / 2) = z) := fun z => by
          rw [mem_gateB hri, hx]
          constructor
          · rintro ⟨l, rfl | rfl, h1, h2⟩
            · exact .inl ⟨h1, h2⟩
            · exact .inr ⟨h1, h2⟩
          · rintro (⟨h1, h2⟩ | ⟨h1, h2⟩)
            · exact ⟨_, .inl rfl, h1, h2⟩
            · exact ⟨_, .inr rfl, h1, h2⟩
        obtain ⟨hl0, hl1, hl2⟩ := hle
        obtain ⟨hr0, hr1, hr2⟩ := hri'
        have hcl := L_cell (ls := gatesM c) (y := x.2.1 / 2) (by unfold rg; rw [hgl]; omega)
        have hcr := L_cell (ls := gatesM c) (y := x.2.2 / 2) (by unfold rg; rw [hgl]; omega)
        have ha : (L (gatesM c) (x.2.1 / 2) < 0 ∧ kindAt t (x.2.1 / 2) ≠ 3) ∨ (rg c.ands.length (L (gatesM c) (x.2.1 / 2)) ∧ kindAt t (x.2.1 / 2) = 3 ∧ atOf t (x.2.1 / 2) = L (gatesM c) (x.2.1 / 2)) := by
          rcases hl2 with ⟨h1, h2, h3, _⟩ | ⟨h1, h2⟩
          · exact .inr ⟨by rw [h2]; exact h3, h1, h2.symm⟩
          · exact .inl ⟨by rw [h2]; decide, h1⟩
        have hb : (L (gatesM c) (x.2.2 / 2) < 0 ∧ kindAt t (x.2.2 / 2) ≠ 3) ∨ (rg c.ands.length (L (gatesM c) (x.2.2 / 2)) ∧ kindAt t (x.2.2 / 2) = 3 ∧ atOf t (x.2.2 / 2) = L (gatesM c) (x.2.2 / 2)) := by
          rcases hr2 with ⟨h1, h2, h3, _⟩ | ⟨h1, h2⟩
          · exact .inr ⟨by rw [h2]; exact h3, h1, h2.symm⟩
          · exact .inl ⟨by rw [h2]; decide, h1⟩
        clear hl2 hr2
        generalize L (gatesM c) (x.2.1 / 2) = a at *
        generalize L (gatesM c) (x.2.2 / 2) = bb at *
        have e6 : (ccells c h)[0 + 8]? = some (.slice (some p) c.ands.length (h 8).2) := by rw [← hp]; rfl
        have hsl := hS3.len
        have hca : rg c.ands.length a → Sn dn a = true → (dn.map Value.bool)[0 + a.toNat * 1]? = some (.bool true) := fun h1 h2 => by rw [Sn_cell (by rw [hsl]; exact h1), h2]
        have hcb : rg c.ands.length bb → Sn dn bb = true → (dn.map Value.bool)[0 + bb.toNat * 1]? = some (.bool true) := fun h1 h2 => by rw [Sn_cell (by rw [hsl]; exact h1), h2]
        have hfa : rg c.ands.length a → Sn dn a = false → (dn.map Value.bool)[0 + a.toNat * 1]? = some (.bool false) := fun h1 h2 => by rw [Sn_cell (by rw [hsl]; exact h1), h2]
        have hfb : rg c.ands.length bb → Sn dn bb = false → (dn.map Value.bool)[0 + bb.toNat * 1]? = some (.bool false) := fun h1 h2 => by rw [Sn_cell (by rw [hsl]; exact h1), h2]
        have hra : rg c.ands.length a → 0 ≤ a ∧ a < c.ands.length := id
        have hrb : rg c.ands.length bb → 0 ≤ bb ∧ bb < c.ands.length := id
        repeat' (first
|(apply X_loadR;eq_refl;exact hdone;exact hcell)
|(apply WC_seqK;intro K hK)
|(apply hK;clear hK)
|(apply WC_block)
|(apply WC_region)
|(apply WL_nil)
|(apply thenQ_normal)
|(apply WC_skip)
|(apply WC_if_true;eq_refl)
|(apply WC_if_false;eq_refl)
|(apply WL_on0;eq_refl)
|(apply X_pv;eq_refl;first|exact trivial|omega)
|(apply X_field;eq_refl)
|(apply X_loadR;eq_refl;(first|assumption|(apply Blk.alloc;assumption)|apply Blk.new|apply Blk.newA|(apply Blk.alloc;first|apply Blk.newA|(apply Blk.alloc;first|assumption|apply Blk.newA)));eq_refl)
|(apply X_cmpT;eq_refl;eq_refl;omega)
|(apply X_len;eq_refl)
|(apply X_index;eq_refl;eq_refl;omega;omega))
        refine WC_draws [(0, true), (1, true), (2, true), (3, true), (4, true), (5, true), (6, true), (7, true), (8, true), (9, true), (10, true), (11, true), (12, true), (13, true), (14, true), (15, true), (16, true), (17, true), (18, true), (19, true), (20, true), (21, true)] (fun W => TolSt w W c h t g D out dn vo) mixed (by kernel_rfl) (by kernel_rfl) ?_
        have hS := hS3.same (Chg.refl w3 none_).dr
        have hdone' := hS.done
        by_cases hcan : CanTell c.ands.length (gateB t c) out i
        · have ha' : a < 0 ∨ (rg c.ands.length a ∧ Sn dn a = true ∧ 0 ≤ a ∧ a < c.ands.length) := by
            rcases ha with ⟨h1, _⟩ | ⟨h1, h2, h3⟩
            · exact .inl h1
            · exact .inr ⟨h1, (hS.mem a h1).2 (hcan.low a ((hmB a).2 (.inl ⟨h2, h3⟩))), hra h1⟩
          have hb' : bb < 0 ∨ (rg c.ands.length bb ∧ Sn dn bb = true ∧ 0 ≤ bb ∧ bb < c.ands.length) := by
            rcases hb with ⟨h1, _⟩ | ⟨h1, h2, h3⟩
            · exact .inl h1
            · exact .inr ⟨h1, (hS.mem bb h1).2 (hcan.low bb ((hmB bb).2 (.inr ⟨h2, h3⟩))), hrb h1⟩
          clear ha hb hmB hfa hfb hra hrb
          have htell : Told c.ands.length (gateB t c) (out ++ [(i : Int)]) := .snoc hS.told hcan fun y hy => by
            rcases Int.lt_or_le y (i : Int) with h1 | h1
            · exact absurd hy (hno y h1)
            · exact h1
          have hsize := htell.size
          simp only [List.length_append, List.length_singleton] at hsize
          rcases ha' with ha' | ⟨ha', hta, ha0, ha1⟩ <;> rcases hb' with hb' | ⟨hb', htb, hb0, hb1⟩
          all_goals
            repeat' (first
|(apply O_loadR;eq_refl;(exact fun _ h => h.box);exact e6;assumption)
|(apply O_loadC;eq_refl;(exact fun W h => cel_chg (hpc 1 _ rfl) h.chg id);assumption)
|(apply O_loadC;eq_refl;(exact fun W h => cel_chg (hpc 2 _ rfl) h.chg id);assumption)
|(apply O_loadR;eq_refl;(exact fun _ h => h.gate);exact hcl;assumption)
|(apply O_loadR;eq_refl;(exact fun _ h => h.gate);exact hcr;assumption)
|(apply X_loadR;eq_refl;exact hdone';(exact hca (by assumption) (by assumption)))
|(apply X_loadR;eq_refl;exact hdone';(exact hcb (by assumption) (by assumption)))
|(apply WC_seqK;intro K hK)
|(apply hK;clear hK)
|(apply WC_region)
|(apply WL_nil)
|(apply thenQ_normal)
|(apply WC_if_true;eq_refl)
|(apply WS_nil)
|(apply WS_next;eq_refl)
|(apply WO_on0;eq_refl)
|(apply O_pv;eq_refl;(first|exact trivial|omega);(first|assumption|exact trivial))
|(apply O_field;eq_refl;(first|assumption|exact trivial))
|(apply O_index;eq_refl;eq_refl;omega;omega;(first|assumption|exact trivial))
|(apply O_indexP;eq_refl;eq_refl;omega;omega;(first|assumption|exact trivial))
|(apply O_fieldP;eq_refl;(first|assumption|exact trivial))
|(apply WL_on0;eq_refl)
|(apply WL_onG;eq_refl;eq_refl;eq_refl;eq_refl)
|(apply WL_noG;eq_refl;eq_refl;eq_refl;eq_refl)
|(apply X_pv;eq_refl;first|exact trivial|omega)
|(apply X_cmpT;eq_refl;eq_refl;omega)
|(apply X_cmpF;eq_refl;eq_refl;omega)
|(apply X_index;eq_refl;eq_refl;omega;omega))
          all_goals
            refine X_doesU (does_store1 (t1 := 4) (b := D) (o := 0 + (i : Int).toNat * 1) (v := .bool true) (by eq_refl) (by eq_refl) hdone' (by simp; omega) rfl rfl) ?_
            have hcc : Chg w3.drew (w3.drew.setRow D ((dn.map Value.bool).set (0 + (i : Int).toNat * 1) (.bool true)).toArray) (fun k => k = D) := Chg.setRow _ _ _ rfl
            have hD2 := hdone'.set ((dn.map Value.bool).set (0 + (i : Int).toNat * 1) (.bool true))
            rw [show (dn.map Value.bool).set (0 + (i : Int).toNat * 1) (.bool true) = (dn.set i true).map Value.bool by rw [Nat.zero_add, Nat.mul_one, List.map_set, Int.toNat_natCast]] at hcc hD2 ⊢
            have hrow2 := own_chg hS.row hcc fun k hk hh => by have := (hS.row.lt k hk).1; omega
            have hbox2 := hS.box.chg hcc (by omega)
            have hgate2 := hS.gate.chg hcc (by omega)
            have hC2 := hS.chg.trans hcc fun k hk hh => by omega
            generalize w3.drew.setRow D ((dn.set i true).map Value.bool).toArray = w4 at *
            repeat' (first
|(apply WC_seqK;intro K hK)
|(apply hK;clear hK)
|(apply WC_region)
|(apply WL_nil)
|(apply thenQ_normal)
|(apply WL_on0;eq_refl)
|(apply X_pv;eq_refl;first|exact trivial|omega)
|(apply X_does;apply buildS22_1 <;> eq_refl))
          all_goals
            refine X_append (D + 1) (by eq_refl) (by eq_refl) (hrow2.alloc _) (Blk.newA w4 _ _) rfl rfl (by decide) (by simp [Value.oneCell']) (by omega) (by decide) (by have := hD2.lt; simp; omega) ?_
            intro vo' w5 hrow5 hC5 _ _
            have hown : ∀ k, vo.ownBlock = some k → D + 1 ≤ k := fun k hk => (hrow2.lt k hk).1
            have hC5' : Chg w w5 none_ := (hC2.al _).trans hC5 fun k hk hh => by have := hown k hh; omega
            have hS5 : TolSt w w5 c h t g D (out ++ [(i : Int)]) (dn.set i true) vo' := by
              refine ⟨hC5', (hbox2.alloc _).chg hC5 fun hh => by have := hown _ hh; omega, (hgate2.alloc _).chg hC5 fun hh => by have := hown _ hh; omega, (hD2.alloc _).chg hC5 fun hh => by have := hown _ hh; omega, by simpa using hrow5, by rw [List.length_set]; exact hsl, htell, fun y hy => ?_⟩
              have hss := Sn_set (sn := dn) (i := (i : Int)) true (by rw [hsl]; exact hri) hy.1
              rw [Int.toNat_natCast] at hss
              rw [hss, List.mem_append, List.mem_singleton]
              split
              · rename_i e; simp [e]
              · rename_i e; rw [hS.mem y hy]; simp [e]
            repeat' (first
|(apply WC_seqK;intro K hK)
|(apply hK;clear hK)
|(apply WC_region)
|(apply WL_nil)
|(apply thenQ_normal)
|(apply thenQ_exit)
|(apply blockQ_hit)
|(apply blockQ_miss;eq_refl)
|(apply blockQ_normal)
|(apply WC_exit)
|(apply WL_on0;eq_refl)
|(apply X_pv;eq_refl;first|exact trivial|omega))
            exact ⟨(out ++ [(i : Int)], dn.set i true, vo', true), ⟨rfl, rfl, rfl, rfl, rfl, trivial⟩, ⟨hS5, fun h => (by cases h)⟩, by simp only [List.length_append, List.length_singleton]; simp; omega⟩
        · have hz : (rg c.ands.length a ∧ Sn dn a = false ∧ 0 ≤ a ∧ a < c.ands.length) ∨ ((a < 0 ∨ (rg c.ands.length a ∧ Sn dn a = true ∧ 0 ≤ a ∧ a < c.ands.length)) ∧ rg c.ands.length bb ∧ Sn dn bb = false ∧ 0 ≤ bb ∧ bb < c.ands.length) := by
            rcases ha with ⟨h1, h1'⟩ | ⟨h1, h2, h3⟩
            · rcases hb with ⟨g1, g1'⟩ | ⟨g1, g2, g3⟩
              · refine absurd ⟨hri, hnew, fun z hz => ?_⟩ hcan
                rcases (hmB z).1 hz with ⟨e, _⟩ | ⟨e, _⟩
                · exact absurd e h1'
                · exact absurd e g1'
              · refine .inr ⟨.inl h1, g1, ?_, hrb g1⟩
                cases hsb : Sn dn bb with
                | false => rfl
                | true =>
                  refine absurd ⟨hri, hnew, fun z hz => ?_⟩ hcan
                  rcases (hmB z).1 hz with ⟨e, _⟩ | ⟨e, e2⟩
                  · exact absurd e h1'
                  · rw [← e2, g3]; exact (hS.mem bb g1).1 hsb
            · cases hsa : Sn dn a with
              | false => exact .inl ⟨h1, rfl, hra h1⟩
              | true =>
                refine .inr ⟨.inr ⟨h1, rfl, hra h1⟩, ?_⟩
                rcases hb with ⟨g1, g1'⟩ | ⟨g1, g2, g3⟩
                · refine absurd ⟨hri, hnew, fun z hz => ?_⟩ hcan
                  rcases (hmB z).1 hz with ⟨e, e2⟩ | ⟨e, _⟩
                  · rw [← e2, h3]; exact (hS.mem a h1).1 hsa
                  · exact absurd e g1'
                · refine ⟨g1, ?_, hrb g1⟩
                  cases hsb : Sn dn bb with
                  | false => rfl
                  | true =>
                    refine absurd ⟨hri, hnew, fun z hz => ?_⟩ hcan
                    rcases (hmB z).1 hz with ⟨e, e2⟩ | ⟨e, e2⟩
                    · rw [← e2, h3]; exact (hS.mem a h1).1 hsa
                    · rw [← e2, g3]; exact (hS.mem bb g1).1 hsb
          clear ha hb hmB hra hrb
          rcases hz with ⟨ha', hta, ha0, ha1⟩ | ⟨ha' | ⟨ha', hta, ha0, ha1⟩, hb', htb, hb0, hb1⟩
          all_goals
            repeat' (first
|(apply O_loadR;eq_refl;(exact fun _ h => h.box);exact e6;assumption)
|(apply O_loadC;eq_refl;(exact fun W h => cel_chg (hpc 1 _ rfl) h.chg id);assumption)
|(apply O_loadC;eq_refl;(exact fun W h => cel_chg (hpc 2 _ rfl) h.chg id);assumption)
|(apply O_loadR;eq_refl;(exact fun _ h => h.gate);exact hcl;assumption)
|(apply O_loadR;eq_refl;(exact fun _ h => h.gate);exact hcr;assumption)
|(apply X_loadR;eq_refl;exact hdone';(exact hca (by assumption) (by assumption)))
|(apply X_loadR;eq_refl;exact hdone';(exact hfa (by assumption) (by assumption)))
|(apply X_loadR;eq_refl;exact hdone';(exact hfb (by assumption) (by assumption)))
|(apply WL_noU;eq_refl;eq_refl;eq_refl)
|(apply WC_seqK;intro K hK)
|(apply hK;clear hK)
|(apply WC_region)
|(apply WL_nil)
|(apply thenQ_normal)
|(apply blockQ_normal)
|(apply WC_skip)
|(apply WC_if_false;eq_refl)
|(apply WS_nil)
|(apply WS_next;eq_refl)
|(apply WO_on0;eq_refl)
|(apply O_pv;eq_refl;(first|exact trivial|omega);(first|assumption|exact trivial))
|(apply O_field;eq_refl;(first|assumption|exact trivial))
|(apply O_index;eq_refl;eq_refl;omega;omega;(first|assumption|exact trivial))
|(apply O_indexP;eq_refl;eq_refl;omega;omega;(first|assumption|exact trivial))
|(apply O_fieldP;eq_refl;(first|assumption|exact trivial))
|(apply WL_on0;eq_refl)
|(apply WL_onG;eq_refl;eq_refl;eq_refl;eq_refl)
|(apply WL_noG;eq_refl;eq_refl;eq_refl;eq_refl)
|(apply X_pv;eq_refl;first|exact trivial|omega)
|(apply X_cmpT;eq_refl;eq_refl;omega)
|(apply X_cmpF;eq_refl;eq_refl;omega)
|(apply X_index;eq_refl;eq_refl;omega;omega))
          all_goals
            refine ⟨i + 1, ⟨rfl, rfl, rfl, rfl, rfl, rfl, trivial⟩, ⟨hS, hlt, fun y hy hc => ?_⟩, by omega⟩
            rcases Int.lt_or_le y (i : Int) with h1 | h1
            · exact hno y h1 hc
            · have : y = i := by omega
              subst this
              exact hcan hc
    · obtain rfl : i = c.ands.length := by omega
      repeat' (first
|(apply WC_seqK;intro K hK)
|(apply hK;clear hK)
|(apply WC_region)
|(apply WL_nil)
|(apply thenQ_normal)
|(apply thenQ_exit)
|(apply blockQ_hit)
|(apply blockQ_normal)
|(apply WC_exit)
|(apply WC_if_false;eq_refl)
|(apply WL_on0;eq_refl)
|(apply X_pv;eq_refl;first|exact trivial|omega)
|(apply X_field;eq_refl)
|(apply X_loadR;eq_refl;(first|assumption|(apply Blk.alloc;assumption)|apply Blk.new|apply Blk.newA|(apply Blk.alloc;first|apply Blk.newA|(apply Blk.alloc;first|assumption|apply Blk.newA)));eq_refl)
|(apply X_cmpF;eq_refl;eq_refl;omega)
|(apply X_len;eq_refl))
      refine ⟨(out, dn, vo, false), ⟨rfl, rfl, rfl, rfl, rfl, trivial⟩, ⟨hS3, fun _ => ⟨hS3.told, fun y hy => hno y hy.rg.2 hy⟩⟩, by simp⟩
end SC
end Go.Proofs.YtbmngkdnebklpaaGreat
end
section
/- trestleref03: round. -/
set_option linter.unusedVariables false
set_option linter.unusedSimpArgs false
namespace Go.Proofs.YtbmngkdnebklpaaGreat
namespace SC
open Go.Proofs
/-- The search from a gate, first come first served: i of the list are done. -/
structure Bfs (n : Nat) (B : Int → List Int) (at_ : Int) (l : List Int) (sn : List Bool) (i : Nat) : Prop where
  len : sn.length = n
  head : l[0]? = some at_
  all : ∀ z ∈ l, rg n z ∧ (z = at_ ∨ Hangs B at_ z)
  seen : ∀ z, rg n z → Sn sn z = true → z ∈ l
  done : ∀ j (hj : j < l.length), j < i → ∀ u ∈ B l[j], u ≠ at_ ∧ u ∈ l
  cnt : l.length + sn.count false = n + 1
  le : i ≤ l.length
theorem Bfs.init {n : Nat} {B : Int → List Int} {at_ : Int} (h : rg n at_) : Bfs n B at_ [at_] (List.replicate n false) 0 :=
  ⟨by simp, rfl, fun z hz => by simp at hz; subst hz; exact ⟨h, .inl rfl⟩, fun z _ hz => (by rw [Sn_false] at hz; cases hz), fun j _ hj => absurd hj (Nat.not_lt_zero _), by simp; omega, Nat.zero_le _⟩
theorem Bfs.hangs {n : Nat} {B : Int → List Int} {at_ : Int} {l : List Int} {sn : List Bool} {i : Nat} (h : Bfs n B at_ l sn i) {x u : Int} (hx : x ∈ l) (hu : u ∈ B x) : Hangs B at_ u := by
  rcases (h.all x hx).2 with rfl | hh
  · exact .one hu
  · exact .more hh hu
theorem Bfs.add {n : Nat} {B : Int → List Int} {at_ : Int} {l : List Int} {sn : List Bool} {i : Nat} (h : Bfs n B at_ l sn i) {u : Int} (hr : rg n u) (hh : Hangs B at_ u) (hs : Sn sn u = false) : Bfs n B at_ (l ++ [u]) (sn.set u.toNat true) i := by
  have hul : u.toNat < sn.length := by have := h.len; unfold rg at hr; omega
  have hc : (sn.set u.toNat true).count false + 1 = sn.count false := count_set _ _ (by
    rw [List.getElem?_eq_getElem hul]
    unfold Sn at hs
    simpa [hul] using hs)
  have hpos : 0 < l.length := (List.getElem?_eq_some_iff.1 h.head).1
  have hle := h.le
  refine ⟨by rw [List.length_set]; exact h.len, by rw [List.getElem?_append_left hpos]; exact h.head, fun z hz => ?_, fun z hz hz2 => ?_, fun j hj hji v hv => ?_, ?_, by simp; omega⟩
  · rcases List.mem_append.1 hz with hz | hz
    · exact h.all z hz
    · simp at hz; subst hz; exact ⟨hr, .inr hh⟩
  · rw [Sn_set true (by rw [h.len]; exact hr) hz.1] at hz2
    split at hz2
    · rename_i e; subst e; simp
    · exact List.mem_append_left _ (h.seen z hz hz2)
  · rcases Nat.lt_or_ge j l.length with hjl | hjl
    · rw [List.getElem_append_left hjl] at hv
      obtain ⟨h1, h2⟩ := h.done j hjl hji v hv
      exact ⟨h1, List.mem_append_left _ h2⟩
    · omega
  · have := h.cnt
    rw [List.length_append, List.length_singleton]
    omega
theorem Bfs.next {n : Nat} {B : Int → List Int} {at_ : Int} {l : List Int} {sn : List Bool} {i : Nat} (h : Bfs n B at_ l sn i) (hi : i < l.length) (hu : ∀ u ∈ B l[i], u ≠ at_ ∧ u ∈ l) : Bfs n B at_ l sn (i + 1) :=
  ⟨h.len, h.head, h.all, h.seen, fun j hj hji u hh => by
    rcases Nat.lt_or_ge j i with h1 | h1
    · exact h.done j hj h1 u hh
    · have e : j = i := by omega
      subst e
      exact hu u hh, h.cnt, hi⟩
theorem Bfs.none {n : Nat} {B : Int → List Int} {at_ : Int} {l : List Int} {sn : List Bool} {i : Nat} (h : Bfs n B at_ l sn i) (hi : l.length ≤ i) : ¬ Hangs B at_ at_ := by
  have key : ∀ z, Hangs B at_ z → z ≠ at_ ∧ z ∈ l := fun z hz => by
    have cl : ∀ x ∈ l, ∀ u ∈ B x, u ≠ at_ ∧ u ∈ l := fun x hx u hu => by
      obtain ⟨j, hj, rfl⟩ := List.mem_iff_getElem.1 hx
      exact h.done j hj (by omega) u hu
    generalize hv : at_ = v at hz
    have hat : at_ ∈ l := List.mem_of_getElem? h.head
    induction hz with
    | one h1 => subst hv; exact cl _ hat _ h1
    | more _ h1 ih => subst hv; exact cl _ ih.2 _ h1
  exact fun hh => (key _ hh).1 rfl
theorem Bfs.size {n : Nat} {B : Int → List Int} {at_ : Int} {l : List Int} {sn : List Bool} {i : Nat} (h : Bfs n B at_ l sn i) : l.length ≤ n + 1 := by have := h.cnt; omega
/-- What round keeps in memory. -/
structure RndSt (w W : World) (c : Circ) (h : Hd) (g D : Nat) (l : List Int) (sn : List Bool) (v : Value) : Prop where
  chg : Chg w W none_
  box : Blk W w.heap.size 29 (ccells c h)
  gate : Blk W g 3 ((gatesM c).map nu)
  seen : Blk W D 4 (sn.map Value.bool)
  row : W.ownsRow (D + 1) 3 1 v l.length (l.map nu)
theorem RndSt.same {w W W' : World} {c : Circ} {h : Hd} {g D : Nat} {l : List Int} {sn : List Bool} {v : Value} (S : RndSt w W c h g D l sn v) (hc : Chg W W' none_) : RndSt w W' c h g D l sn v :=
  ⟨S.chg.trans hc fun _ _ h => h, S.box.chg hc id, S.gate.chg hc id, S.seen.chg hc id, own_chg S.row hc fun _ _ => id⟩
section
variable {P : Program} {n : Nat} {all : List Oper} {S : World → Prop} {K : Env → World → Prop} {i : Nat} {r : List (Nat × Bool)} {d : Option Tmp} {ty t : TypeId} {e : Env} {w : World} {td : TypeDesc} {sz by_ : Nat} {zv : Value} {ag : Bool}
theorem O_alloc [T : Ty P t td sz zv by_ ag] (hS : loose .any all.toArray i = false → S (w.alloc (.cells zv.cells t))) (hr : WS P n all S K r (push d (.pointer (some ⟨w.heap.size, 0, none⟩)) e) (w.alloc (.cells zv.cells t))) : OX P n all S K i false r d (.alloc t) ty e w := O_does does_alloc hS hr
end
attribute [local irreducible] WC WL WX WS WO OX Does DoesU Enters CV Pure thenQ blockQ retQ Wants retQC
set_option maxRecDepth 100000
theorem round_cv {w : World} {c : Circ} {h js : Hd} {t : Tab} {g : Nat} {at_ : Int} (H : CirAt w c h js) (hG : Blk w g 3 ((gatesM c).map nu)) (hT : TabOk c t) (hU : UseAll c t) (hm : 0 ≤ c.max ∧ c.max ≤ 16384) (hn : c.ands.length ≤ 16384) (hat : rg c.ands.length at_) :
    CV Tryz.prog 71 [.agg (ccells c h).toArray, .slice (some ⟨g, 0, none⟩) (gatesM c).length (gatesM c).length, nu at_] w fun v w' => ∃ b, v = .bool b ∧ (b = true ↔ Hangs (gateB t c) at_ at_) ∧ Chg w w' none_ := by
  have hI0 : Blk (w.alloc (.cells (ccells c h).toArray 29)) w.heap.size 29 (ccells c h) := Blk.new w _ _
  have hC0 := Chg.alloc w (.cells (ccells c h).toArray 29) none_
  have hgl := gatesM_len c
  have hg0 := hG.lt
  refine enter 79 [6] Tryz.func71 rfl rfl rfl (by decide) rfl ?_
  repeat' (first
|(apply X_make;eq_refl;omega;omega)
|(apply WC_seqK;intro K hK)
|(apply hK;clear hK)
|(apply WC_block)
|(apply WC_region)
|(apply WL_nil)
|(apply thenQ_normal)
|(apply WL_on0;eq_refl)
|(apply X_pv;eq_refl;first|exact trivial|omega)
|(apply X_field;eq_refl)
|(apply X_loadR;eq_refl;(first|assumption|(apply Blk.alloc;assumption)|apply Blk.new|apply Blk.newA|(apply Blk.alloc;first|apply Blk.newA|(apply Blk.alloc;first|assumption|apply Blk.newA)));eq_refl)
|(apply X_len;eq_refl)
|(apply X_box;eq_refl)
|(apply X_does;apply buildS22_1 <;> eq_refl))
  have hz0 := sz_alloc w (.cells (ccells c h).toArray 29)
  have hz1 := sz_alloc (w.alloc (.cells (ccells c h).toArray 29)) (.cells (madeCells (Value.bool false).cells (c.ands.length * 1)) 4)
  have hdm : Blk ((w.alloc (.cells (ccells c h).toArray 29)).alloc (.cells (madeCells (Value.bool false).cells (c.ands.length * 1)) 4)) (w.alloc (.cells (ccells c h).toArray 29)).heap.size 4 ((List.replicate c.ands.length false).map Value.bool) := by
    have e1 : (madeCells (Value.bool false).cells (c.ands.length * 1)).toList = (List.replicate c.ands.length false).map Value.bool := by rw [Nat.mul_one, show (Value.bool false).cells = #[Value.bool false] from rfl, made_one, List.map_replicate]
    have := Blk.newA (w.alloc (.cells (ccells c h).toArray 29)) (madeCells (Value.bool false).cells (c.ands.length * 1)) 4
    rwa [e1] at this
  have hS0 : RndSt w (((w.alloc (.cells (ccells c h).toArray 29)).alloc (.cells (madeCells (Value.bool false).cells (c.ands.length * 1)) 4)).alloc (.cells #[nu at_] 3)) c h g (w.alloc (.cells (ccells c h).toArray 29)).heap.size [at_] (List.replicate c.ands.length false) (.slice (some ⟨((w.alloc (.cells (ccells c h).toArray 29)).alloc (.cells (madeCells (Value.bool false).cells (c.ands.length * 1)) 4)).heap.size, 0, none⟩) 1 1) :=
    ⟨(hC0.al _).al _, (hI0.alloc _).alloc _, ((hG.alloc _).alloc _).alloc _, hdm.alloc _, ⟨by simp, .inr ⟨_, 1, #[nu at_], rfl, by rw [hz1]; exact Nat.le_refl _, heap_alloc_new _ _, Nat.le_refl _, by simp [maxLen], rfl, rfl⟩⟩⟩
  have hDw : w.heap.size < (w.alloc (.cells (ccells c h).toArray 29)).heap.size := by omega
  refine WC_loop (fun s : Nat × List Int × List Bool × Value => [(1, .slice (some ⟨g, 0, none⟩) (gatesM c).length (gatesM c).length), (2, nu at_), (3, pt w.heap.size), (7, .slice (some ⟨(w.alloc (.cells (ccells c h).toArray 29)).heap.size, 0, none⟩) c.ands.length c.ands.length), (8, s.2.2.2), (9, nu s.1)])
    (fun s W => RndSt w W c h g (w.alloc (.cells (ccells c h).toArray 29)).heap.size s.2.1 s.2.2.1 s.2.2.2 ∧ Bfs c.ands.length (gateB t c) at_ s.2.1 s.2.2.1 s.1) (fun s => c.ands.length + 2 - s.1)
    (0, [at_], List.replicate c.ands.length false, .slice (some ⟨((w.alloc (.cells (ccells c h).toArray 29)).alloc (.cells (madeCells (Value.bool false).cells (c.ands.length * 1)) 4)).heap.size, 0, none⟩) 1 1) ⟨rfl, rfl, rfl, rfl, rfl, rfl, trivial⟩ ⟨hS0, .init hat⟩ ?_
  clear hS0 hdm hI0 hC0 hz0 hz1
  generalize (w.alloc (.cells (ccells c h).toArray 29)).heap.size = D at *
  rintro ⟨i, l, sn, vl⟩ w1 ⟨hS1, hB1⟩
  simp only at hS1 hB1
  obtain ⟨A1, cp1, rfl⟩ := row_form' hS1.row
  have hsz := hB1.size
  rcases Nat.lt_or_ge i l.length with hlt | hge
  · obtain ⟨p, rfl, hpc⟩ := (rowI hS1.row).one hlt (v := nu l[i]) rfl
    have hz := hB1.all _ (List.getElem_mem hlt)
    have hnx := hB1.next hlt
    have hlz := List.getElem_mem hlt
    generalize hzz : l[i] = z at *
    obtain ⟨hzr, hzh⟩ := hz
    have hzr' : 0 ≤ z ∧ z < c.ands.length := hzr
    have hzn : z.toNat < c.ands.length := by omega
    obtain ⟨q, hq, hqc⟩ := H.ands z.toNat hzn
    have hx : andAt c z = c.ands[z.toNat] := by unfold andAt; simp [hzn]
    have hle := hT.lit hU hzr (.inl rfl)
    have hri := hT.lit hU hzr (.inr rfl)
    rw [hx] at hle hri
    rw [show ((z.toNat : Nat) : Int) = z by omega] at hqc
    generalize hxx : c.ands[z.toNat] = x at *
    have hmB : ∀ u, u ∈ gateB t c z ↔ (kindAt t (x.2.1 / 2) = 3 ∧ atOf t (x.2.1 / 2) = u) ∨ (kindAt t (x.2.2 / 2) = 3 ∧ atOf t (x.2.2 / 2) = u) := fun u => by
      rw [mem_gateB hzr, hx]
      constructor
      · rintro ⟨l, rfl | rfl, h1, h2⟩
        · exact .inl ⟨h1, h2⟩
        · exact .inr ⟨h1, h2⟩
      · rintro (⟨h1, h2⟩ | ⟨h1, h2⟩)
        · exact ⟨_, .inl rfl, h1, h2⟩
        · exact ⟨_, .inr rfl, h1, h2⟩
    obtain ⟨hl0, hl1, hl2⟩ := hle
    obtain ⟨hr0, hr1, hr2⟩ := hri
    have hcl := L_cell (ls := gatesM c) (y := x.2.1 / 2) (by unfold rg; rw [hgl]; omega)
    have hcr := L_cell (ls := gatesM c) (y := x.2.2 / 2) (by unfold rg; rw [hgl]; omega)
    have hab : ∀ u : Int, 0 ≤ u → (L (gatesM c) (x.2.1 / 2) = u ∨ L (gatesM c) (x.2.2 / 2) = u) → rg c.ands.length u ∧ u ∈ gateB t c z := fun u hu hh => by
      rcases hh with rfl | rfl
      · rcases hl2 with ⟨_, h2, h3, h4⟩ | ⟨_, h2⟩
        · rw [h2]; exact ⟨h3, h4⟩
        · omega
      · rcases hr2 with ⟨_, h2, h3, h4⟩ | ⟨_, h2⟩
        · rw [h2]; exact ⟨h3, h4⟩
        · omega
    have hBab : ∀ u ∈ gateB t c z, 0 ≤ u ∧ (L (gatesM c) (x.2.1 / 2) = u ∨ L (gatesM c) (x.2.2 / 2) = u) := fun u hu => by
      rcases (hmB u).1 hu with ⟨h1, h2⟩ | ⟨h1, h2⟩
      · rcases hl2 with ⟨_, g2, g3, _⟩ | ⟨g1, _⟩
        · unfold rg at g3; exact ⟨by omega, .inl (g2.trans h2)⟩
        · exact absurd h1 g1
      · rcases hr2 with ⟨_, g2, g3, _⟩ | ⟨g1, _⟩
        · unfold rg at g3; exact ⟨by omega, .inr (g2.trans h2)⟩
        · exact absurd h1 g1
    clear hl2 hr2 hmB
    generalize L (gatesM c) (x.2.1 / 2) = a at *
    generalize L (gatesM c) (x.2.2 / 2) = bb at *
    have e6 : (ccells c h)[0 + 8]? = some (.slice (some q) c.ands.length (h 8).2) := by rw [← hq]; rfl
    repeat' (first
|(apply WC_seqK;intro K hK)
|(apply hK;clear hK)
|(apply WC_block)
|(apply WC_region)
|(apply WL_nil)
|(apply thenQ_normal)
|(apply WC_skip)
|(apply WC_if_true;eq_refl)
|(apply WL_on0;eq_refl)
|(apply X_pv;eq_refl;first|exact trivial|omega)
|(apply X_cmpT;eq_refl;eq_refl;omega)
|(apply X_len;eq_refl))
    refine WC_draws [(0, true), (1, true), (2, true), (3, true), (4, true), (5, true), (6, true), (7, true), (8, false), (9, false)] (fun W => Chg w1.drew W none_) mixed (by kernel_rfl) (by kernel_rfl) ?_
    have hS2 := hS1.same (Chg.refl w1 none_).dr
    have hpc2 : w1.drew.cell? _ = _ := hpc
    generalize w1.drew = w2 at *
    have hR := Chg.refl w2 none_
    repeat' (first
|(apply O_loadR;eq_refl;(exact fun _ h => hS2.box.chg h id);exact e6;assumption)
|(apply O_loadC;eq_refl;(exact fun W h => cel_chg hpc2 h id);assumption)
|(apply O_loadAP (tcells x);eq_refl;eq_refl;(exact fun W h j u hj => cel_chg (hqc j u hj) (hS2.chg.trans h fun _ _ h => h) id);assumption)
|(apply O_alloc;exact fun _ => hR.al _)
|(apply WS_next;eq_refl)
|(apply WO_on0;eq_refl)
|(apply O_pv;eq_refl;(first|exact trivial|omega);(first|assumption|exact trivial))
|(apply O_field;eq_refl;(first|assumption|exact trivial))
|(apply O_indexP;eq_refl;eq_refl;omega;omega;(first|assumption|exact trivial)))
    have hcc : Chg w2 ((w2.alloc (.cells #[nu 0, nu 0, nu 0] 63)).setRow w2.heap.size (tcells x).toArray) none_ := (Chg.alloc w2 _ none_).trans (Chg.setRow _ w2.heap.size _ (S := fun k => k = w2.heap.size) rfl) fun k hk h => by omega
    refine O_doesU (does_storeA (t1 := 63) (vs := tcells x) (o := 0) (b := w2.heap.size) (by eq_refl) (by eq_refl) (Blk.newA w2 _ _) rfl (by exact Nat.le_refl 3) (by simp [tcells, Value.oneCell'])) (fun _ => hcc) ?_
    refine WS_turn (fun W => RndSt w W c h g D l sn (.slice (some p) l.length cp1) ∧ Blk W w2.heap.size 63 (tcells x)) ⟨hS2.same hcc, (Blk.newA w2 _ 63).set (tcells x)⟩ ?_
    clear hcc hR hS2 hpc2 hpc hS1
    generalize w2.heap.size = b10 at *
    rintro w3 ⟨hS3, hT3⟩
    repeat' (first
|(apply WC_seqK;intro K hK)
|(apply hK;clear hK)
|(apply thenQ_normal)
|(apply WS_nil))
    skip
    refine WC_draws [(0, true), (1, true), (2, true), (3, true), (4, true), (5, true), (6, true), (7, true), (8, true), (9, true), (10, true), (11, true), (12, true), (13, false), (14, false)] (fun W => Chg w3.drew W none_) mixed (by kernel_rfl) (by kernel_rfl) ?_
    have hS4 := hS3.same (Chg.refl w3 none_).dr
    have hT4 : Blk w3.drew b10 63 (tcells x) := hT3
    generalize w3.drew = w4 at *
    have hR := Chg.refl w4 none_
    repeat' (first
|(apply O_loadR;eq_refl;(exact fun _ h => hT4.chg h id);eq_refl;assumption)
|(apply O_loadR;eq_refl;(exact fun W h => hS4.gate.chg h id);exact hcl;assumption)
|(apply O_loadR;eq_refl;(exact fun W h => hS4.gate.chg h id);exact hcr;assumption)
|(apply O_alloc;exact fun _ => hR.al _)
|(apply WS_next;eq_refl)
|(apply WO_on0;eq_refl)
|(apply O_pv;eq_refl;(first|exact trivial|omega);(first|assumption|exact trivial))
|(apply O_field;eq_refl;(first|assumption|exact trivial))
|(apply O_index;eq_refl;eq_refl;omega;omega;(first|assumption|exact trivial))
|(apply O_pure;apply build142_0_1 <;> eq_refl;(first|assumption|exact trivial)))
    have hcc : Chg w4 ((w4.alloc (.cells #[nu 0, nu 0] 142)).setRow w4.heap.size [nu a, nu bb].toArray) none_ := (Chg.alloc w4 _ none_).trans (Chg.setRow _ w4.heap.size _ (S := fun k => k = w4.heap.size) rfl) fun k hk h => by omega
    refine O_doesU (does_storeA (t1 := 142) (vs := [nu a, nu bb]) (o := 0) (b := w4.heap.size) (by eq_refl) (by eq_refl) (Blk.newA w4 _ _) rfl (by exact Nat.le_refl 2) (by simp [Value.oneCell'])) (fun _ => hcc) ?_
    have hDb := hS4.seen.lt
    refine WS_turn (fun W => RndSt w W c h g D l sn (.slice (some p) l.length cp1) ∧ Blk W w4.heap.size 142 [nu a, nu bb]) ⟨hS4.same hcc, (Blk.newA w4 _ 142).set [nu a, nu bb]⟩ ?_
    clear hcc hR hS4 hS3 hT3 hT4
    generalize w4.heap.size = b11 at *
    rintro w5 ⟨hS5, hP5⟩
    repeat' (first
|(apply WC_seqK;intro K hK)
|(apply hK;clear hK)
|(apply WC_block)
|(apply WC_region)
|(apply WL_nil)
|(apply thenQ_normal)
|(apply WS_nil)
|(apply WL_on0;eq_refl)
|(apply X_pv;eq_refl;first|exact trivial|omega))
    skip
    refine WC_loop (fun s : Nat × List Int × List Bool × Value => [(1, .slice (some ⟨g, 0, none⟩) (gatesM c).length (gatesM c).length), (2, nu at_), (3, pt w.heap.size), (7, .slice (some ⟨D, 0, none⟩) c.ands.length c.ands.length), (8, s.2.2.2), (9, nu i), (11, pt b11), (12, nu s.1)])
      (fun s W => RndSt w W c h g D s.2.1 s.2.2.1 s.2.2.2 ∧ Blk W b11 142 [nu a, nu bb] ∧ Bfs c.ands.length (gateB t c) at_ s.2.1 s.2.2.1 i ∧ s.2.1[i]? = some z ∧ s.1 ≤ 2 ∧ (∀ k < s.1, ∀ v, [a, bb][k]? = some v → 0 ≤ v → v ≠ at_ ∧ v ∈ s.2.1)) (fun s => 2 - s.1)
      (0, l, sn, .slice (some p) l.length cp1) ⟨rfl, rfl, rfl, rfl, rfl, rfl, rfl, rfl, trivial⟩ ⟨hS5, hP5, hB1, by rw [List.getElem?_eq_getElem hlt, hzz], Nat.zero_le _, fun k hk => absurd hk (Nat.not_lt_zero _)⟩ ?_
    clear hS5 hP5 hB1 hsz hnx hlz hzz hlt hzh
    rintro ⟨k, l, sn, vl⟩ w5 ⟨hS5, hP5, hB5, hli, hk, hno⟩
    simp only at hS5 hB5 hli hno hk
    have hsz := hB5.size
    have hlz : z ∈ l := List.mem_of_getElem? hli
    rcases Nat.lt_or_ge k 2 with hlt | hge
    · obtain ⟨v, hv1, hv2, hv3⟩ : ∃ v, [a, bb][k]? = some v ∧ [nu a, nu bb][0 + (k : Int).toNat * 1]? = some (nu v) ∧ (a = v ∨ bb = v) := by
        match k, hlt with
        | 0, _ => exact ⟨a, rfl, rfl, .inl rfl⟩
        | 1, _ => exact ⟨bb, rfl, rfl, .inr rfl⟩
      have hseen := hS5.seen
      have hno' : ∀ {l' : List Int}, (∀ y ∈ l, y ∈ l') → (0 ≤ v → v ≠ at_ ∧ v ∈ l') → ∀ k' < k + 1, ∀ u, [a, bb][k']? = some u → 0 ≤ u → u ≠ at_ ∧ u ∈ l' := fun {l'} hsub hv k' hk' u hu h0 => by
        rcases Nat.lt_or_ge k' k with h1 | h1
        · obtain ⟨g1, g2⟩ := hno k' h1 u hu h0
          exact ⟨g1, hsub _ g2⟩
        · have e : k' = k := by omega
          subst e
          rw [hv1] at hu
          cases hu
          exact hv h0
      by_cases hva : v = at_
      · have h0 : 0 ≤ v := by rw [hva]; exact hat.1
        have hh := hB5.hangs hlz (hab v h0 hv3).2
        rw [hva] at hv2 hh
        repeat' (first
|(apply X_indexA;eq_refl;eq_refl;omega;omega)
|(apply X_loadR;eq_refl;exact hP5;exact hv2)
|(apply WC_seqK;intro K hK)
|(apply hK;clear hK)
|(apply WC_block)
|(apply WC_region)
|(apply WL_nil)
|(apply thenQ_normal)
|(apply thenQ_ret)
|(apply blockQ_ret)
|(apply WC_ret)
|(apply WC_skip)
|(apply WC_if_true;eq_refl)
|(apply ret1;eq_refl)
|(apply WL_on0;eq_refl)
|(apply X_pv;eq_refl;first|exact trivial|omega)
|(apply X_cmpT;eq_refl;eq_refl;omega))
        exact ⟨true, rfl, ⟨fun _ => hh, fun _ => rfl⟩, hS5.chg⟩
      · by_cases h0 : 0 ≤ v
        · obtain ⟨hvr, hvB⟩ := hab v h0 hv3
          have hvr' : 0 ≤ v ∧ v < c.ands.length := hvr
          have hcell := Sn_cell (sn := sn) (z := v) (by rw [hB5.len]; exact hvr)
          cases hsv : Sn sn v with
          | true =>
            rw [hsv] at hcell
            repeat' (first
|(apply X_indexA;eq_refl;eq_refl;omega;omega)
|(apply X_loadR;eq_refl;exact hP5;exact hv2)
|(apply X_loadR;eq_refl;exact hseen;exact hcell)
|(apply WC_seqK;intro K hK)
|(apply hK;clear hK)
|(apply WC_block)
|(apply WC_region)
|(apply WL_nil)
|(apply thenQ_normal)
|(apply blockQ_normal)
|(apply WC_skip)
|(apply WC_if_true;eq_refl)
|(apply WC_if_false;eq_refl)
|(apply WL_on0;eq_refl)
|(apply WL_onG;eq_refl;eq_refl;eq_refl;eq_refl)
|(apply X_pv;eq_refl;first|exact trivial|omega)
|(apply X_cmpT;eq_refl;eq_refl;omega)
|(apply X_cmpF;eq_refl;eq_refl;omega)
|(apply X_index;eq_refl;eq_refl;omega;omega))
            exact ⟨(k + 1, l, sn, vl), ⟨rfl, rfl, rfl, rfl, rfl, rfl, rfl, rfl, trivial⟩, ⟨hS5, hP5, hB5, hli, hlt, hno' (fun _ h => h) fun _ => ⟨hva, hB5.seen v hvr hsv⟩⟩, by simp only; omega⟩
          | false =>
            rw [hsv] at hcell
            have hB6 := hB5.add hvr (hB5.hangs hlz hvB) hsv
            have hsl := hB5.len
            repeat' (first
|(apply X_indexA;eq_refl;eq_refl;omega;omega)
|(apply X_loadR;eq_refl;exact hP5;exact hv2)
|(apply X_loadR;eq_refl;exact hseen;exact hcell)
|(apply WC_seqK;intro K hK)
|(apply hK;clear hK)
|(apply WC_block)
|(apply WC_region)
|(apply WL_nil)
|(apply thenQ_normal)
|(apply WC_skip)
|(apply WC_if_true;eq_refl)
|(apply WC_if_false;eq_refl)
|(apply WL_on0;eq_refl)
|(apply WL_onG;eq_refl;eq_refl;eq_refl;eq_refl)
|(apply X_pv;eq_refl;first|exact trivial|omega)
|(apply X_cmpT;eq_refl;eq_refl;omega)
|(apply X_cmpF;eq_refl;eq_refl;omega)
|(apply X_index;eq_refl;eq_refl;omega;omega))
            refine X_doesU (does_store1 (t1 := 4) (b := D) (o := 0 + v.toNat * 1) (v := .bool true) (by eq_refl) (by eq_refl) hseen (by simp; omega) rfl rfl) ?_
            have hcc : Chg w5 (w5.setRow D ((sn.map Value.bool).set (0 + v.toNat * 1) (.bool true)).toArray) (fun k => k = D) := Chg.setRow _ _ _ rfl
            have hD2 := hseen.set ((sn.map Value.bool).set (0 + v.toNat * 1) (.bool true))
            rw [show (sn.map Value.bool).set (0 + v.toNat * 1) (.bool true) = (sn.set v.toNat true).map Value.bool by rw [Nat.zero_add, Nat.mul_one, List.map_set]] at hcc hD2 ⊢
            have hS6 : RndSt w (w5.setRow D ((sn.set v.toNat true).map Value.bool).toArray) c h g D l (sn.set v.toNat true) vl :=
              ⟨hS5.chg.trans hcc fun k hk hh => by omega, hS5.box.chg hcc (by omega), hS5.gate.chg hcc (by omega), hD2, own_chg hS5.row hcc fun k hk hh => by have := (hS5.row.lt k hk).1; omega⟩
            have hP6 := hP5.chg hcc (by omega)
            clear hcc hD2
            generalize w5.setRow D ((sn.set v.toNat true).map Value.bool).toArray = w6 at *
            repeat' (first
|(apply X_indexA;eq_refl;eq_refl;omega;omega)
|(apply X_loadR;eq_refl;exact hP6;exact hv2)
|(apply hK;clear hK)
|(apply WC_region)
|(apply WL_nil)
|(apply thenQ_normal)
|(apply WL_on0;eq_refl)
|(apply X_pv;eq_refl;first|exact trivial|omega)
|(apply X_does;apply buildS22_1 <;> eq_refl))
            have hrow6 := hS6.row
            refine X_append (D + 1) (by eq_refl) (by eq_refl) (hrow6.alloc _) (Blk.newA w6 _ _) rfl rfl (by decide) (by simp [Value.oneCell']) (by omega) (by decide) (by have := hS6.seen.lt; simp; omega) ?_
            intro vl' w7 hrow7 hC7 _ _
            have hown : ∀ k, vl.ownBlock = some k → D + 1 ≤ k := fun k hk => (hrow6.lt k hk).1
            have hS7 : RndSt w w7 c h g D (l ++ [v]) (sn.set v.toNat true) vl' :=
              ⟨(hS6.chg.al _).trans hC7 fun k hk hh => by have := hown k hh; omega, (hS6.box.alloc _).chg hC7 fun hh => by have := hown _ hh; omega, (hS6.gate.alloc _).chg hC7 fun hh => by have := hown _ hh; omega, (hS6.seen.alloc _).chg hC7 fun hh => by have := hown _ hh; omega, by simpa using hrow7⟩
            have hP7 : Blk w7 b11 142 [nu a, nu bb] := (hP6.alloc (.cells #[nu v] 3)).chg hC7 (own_blk (hrow6.alloc (.cells #[nu v] 3)) (hP6.alloc (.cells #[nu v] 3)) (by decide))
            repeat' (first
|(apply hK;clear hK)
|(apply WC_region)
|(apply WL_nil)
|(apply thenQ_normal)
|(apply blockQ_normal)
|(apply WL_on0;eq_refl)
|(apply X_pv;eq_refl;first|exact trivial|omega))
            have hil : i < l.length := (List.getElem?_eq_some_iff.1 hli).1
            exact ⟨(k + 1, l ++ [v], sn.set v.toNat true, vl'), ⟨rfl, rfl, rfl, rfl, rfl, rfl, rfl, rfl, trivial⟩, ⟨hS7, hP7, hB6, by rw [List.getElem?_append_left hil]; exact hli, hlt, hno' (fun _ h => List.mem_append_left _ h) fun _ => ⟨hva, by simp⟩⟩, by simp only; omega⟩
        · repeat' (first
|(apply X_indexA;eq_refl;eq_refl;omega;omega)
|(apply X_loadR;eq_refl;exact hP5;exact hv2)
|(apply WC_seqK;intro K hK)
|(apply hK;clear hK)
|(apply WC_block)
|(apply WC_region)
|(apply WL_nil)
|(apply thenQ_normal)
|(apply blockQ_normal)
|(apply WC_skip)
|(apply WC_if_true;eq_refl)
|(apply WC_if_false;eq_refl)
|(apply WL_on0;eq_refl)
|(apply WL_noG;eq_refl;eq_refl;eq_refl;eq_refl)
|(apply X_pv;eq_refl;first|exact trivial|omega)
|(apply X_cmpT;eq_refl;eq_refl;omega)
|(apply X_cmpF;eq_refl;eq_refl;omega))
          exact ⟨(k + 1, l, sn, vl), ⟨rfl, rfl, rfl, rfl, rfl, rfl, rfl, rfl, trivial⟩, ⟨hS5, hP5, hB5, hli, hlt, hno' (fun _ h => h) fun h => absurd h h0⟩, by simp only; omega⟩
    · obtain rfl : k = 2 := by omega
      have hil : i < l.length := (List.getElem?_eq_some_iff.1 hli).1
      have hzi : l[i] = z := by rw [List.getElem?_eq_getElem hil] at hli; exact Option.some.inj hli
      have hB6 := hB5.next hil (by
        rw [hzi]
        intro u hu
        obtain ⟨h1, h2⟩ := hBab u hu
        rcases h2 with h2 | h2
        · exact hno 0 (by decide) u (by rw [← h2]; rfl) h1
        · exact hno 1 (by decide) u (by rw [← h2]; rfl) h1)
      repeat' (first
|(apply WC_seqK;intro K hK)
|(apply hK;clear hK)
|(clear hK;apply hK;clear hK)
|(apply WC_region)
|(apply WL_nil)
|(apply thenQ_normal)
|(apply thenQ_exit)
|(apply blockQ_hit)
|(apply blockQ_normal)
|(apply WC_exit)
|(apply WC_if_false;eq_refl)
|(apply WL_on0;eq_refl)
|(apply X_pv;eq_refl;first|exact trivial|omega)
|(apply X_cmpF;eq_refl;eq_refl;omega))
      exact ⟨(i + 1, l, sn, vl), ⟨rfl, rfl, rfl, rfl, rfl, rfl, trivial⟩, ⟨hS5, hB6⟩, by simp only; omega⟩
  · have hnone := hB1.none hge
    repeat' (first
|(apply WC_seqK;intro K hK)
|(apply hK;clear hK)
|(clear hK;apply hK;clear hK)
|(apply WC_region)
|(apply WL_nil)
|(apply thenQ_normal)
|(apply thenQ_exit)
|(apply blockQ_hit)
|(apply WC_ret)
|(apply WC_exit)
|(apply WC_if_false;eq_refl)
|(apply ret1;eq_refl)
|(apply WL_on0;eq_refl)
|(apply X_pv;eq_refl;first|exact trivial|omega)
|(apply X_cmpF;eq_refl;eq_refl;omega)
|(apply X_len;eq_refl))
    exact ⟨false, rfl, ⟨fun h => (by cases h), fun h => absurd h hnone⟩, hS1.chg⟩
end SC
end Go.Proofs.YtbmngkdnebklpaaGreat
end
section
/- trestleref03: symbols. -/
set_option linter.unusedVariables false
set_option linter.unusedSimpArgs false
namespace Go.Proofs.YtbmngkdnebklpaaGreat
namespace SC
open Go.Proofs
/-- What is to be shown later: stepping words stop here. -/
structure Later (p : Prop) : Prop where
  get : p
section
variable {P : Program} {n : Nat} {x y r b : Code} {Q : Post} {e : Env} {w : World}
theorem WC_mid (e1 : Env) (I : World → Prop) (h1 : WC P n x (fun s e' w' => s = .normal ∧ Sub e1 e' ∧ I w') e w) (h2 : Later (∀ w', I w' → WC P n y Q e1 w')) : WC P n (.seq x y) Q e w :=
  WC_seq (h1.mono fun s e' w' ⟨hs, hsub, hI⟩ => by subst hs; exact (h2.get w' hI).weaken hsub)
theorem WC_midB (i : Nat) (e1 : Env) (I : World → Prop) (h1 : WC P n (.seq r (.block i b)) (fun s e' w' => s = .normal ∧ Sub e1 e' ∧ I w') e w) (h2 : Later (∀ w', I w' → WC P n y Q e1 w')) : WC P n (.seq (.seq r (.block i b)) y) Q e w := WC_mid e1 I h1 h2
theorem WC_midR (i : Nat) {l : Array Oper} {d : Bool} (e1 : Env) (I : World → Prop) (h1 : WC P n (.region i l d) (fun s e' w' => s = .normal ∧ Sub e1 e' ∧ I w') e w) (h2 : Later (∀ w', I w' → WC P n y Q e1 w')) : WC P n (.seq (.region i l d) y) Q e w := WC_mid e1 I h1 h2
end
/-- How often a thing has a name before. -/
def SymF (ls : List Sym) (i : Nat) (f : Int → Int → Int) : Prop := ∀ p q, 0 ≤ f p q ∧ (0 < f p q ↔ ∃ k, ∃ hk : k < ls.length, k < i ∧ ls[k].kind = p ∧ ls[k].at_ = q)
theorem SymF.next {ls : List Sym} {i : Nat} {f : Int → Int → Int} (h : SymF ls i f) (hi : i < ls.length) : SymF ls (i + 1) (fun p q => if p = ls[i].kind ∧ q = ls[i].at_ then f ls[i].kind ls[i].at_ + 1 else f p q) := fun p q => by
  by_cases hc : p = ls[i].kind ∧ q = ls[i].at_
  · simp only [if_pos hc]
    have := (h ls[i].kind ls[i].at_).1
    exact ⟨by omega, fun _ => ⟨i, hi, by omega, hc.1.symm, hc.2.symm⟩, fun _ => by omega⟩
  · simp only [if_neg hc]
    refine ⟨(h p q).1, fun hh => ?_, fun ⟨k, hk, hki, h1, h2⟩ => ?_⟩
    · obtain ⟨k, hk, hki, h1, h2⟩ := (h p q).2.1 hh
      exact ⟨k, hk, by omega, h1, h2⟩
    · have : k ≠ i := fun e => by subst e; exact hc ⟨h1.symm, h2.symm⟩
      exact (h p q).2.2 ⟨k, hk, by omega, h1, h2⟩
attribute [local irreducible] WC WL WX WS WO OX Does DoesU Enters CV Pure thenQ blockQ retQ Wants retQC
set_option maxRecDepth 100000
theorem symbols82_cv {w : World} {c : Circ} {h js : Hd} (H : CirAt w c h js) (hs : c.Sane) : CV Tryz.prog 72 [.agg (ccells c h).toArray] w fun v w' => v = .tuple #[nu (if 0 ≤ goSym c c.symbols 0 fun _ _ => 0 then goSym c c.symbols 0 fun _ _ => 0 else 0), nu (if 0 ≤ goSym c c.symbols 0 fun _ _ => 0 then 35 else 0)] ∧ Chg w w' none_ := by
  have hN : Blk (w.alloc (.cells (ccells c h).toArray 29)) w.heap.size 29 (ccells c h) := Blk.new w _ _
  have hC := Chg.alloc w (.cells (ccells c h).toArray 29) none_
  have hlens := hs.lens
  refine enter 126 [2, 3] Tryz.func72 rfl rfl rfl (by decide) rfl ?_
  repeat' (first
|(apply WC_seqK;intro K hK)
|(apply hK;clear hK)
|(apply WC_block)
|(apply WC_region)
|(apply WL_nil)
|(apply thenQ_normal)
|(apply WL_on0;eq_refl)
|(apply X_pv;eq_refl;first|exact trivial|omega)
|(apply X_box;eq_refl))
  generalize hr : (goSym c c.symbols 0 fun _ _ => 0) = r
  refine WC_loop (fun s : Nat × (Int → Int → Int) => [(1, pt w.heap.size), (4, nu s.1)])
    (fun s w1 => Chg w w1 none_ ∧ Blk w1 w.heap.size 29 (ccells c h) ∧ SymF c.symbols s.1 s.2 ∧ s.1 ≤ c.symbols.length ∧ goSym c (c.symbols.drop s.1) s.1 s.2 = r) (fun s => c.symbols.length - s.1) (0, fun _ _ => 0) ⟨rfl, rfl, trivial⟩ ⟨hC, hN, fun p q => ⟨Int.le_refl _, fun hh => absurd hh (Int.lt_irrefl 0), fun ⟨k, hk, hki, _⟩ => absurd hki (Nat.not_lt_zero _)⟩, Nat.zero_le _, hr⟩ ?_
  clear hC hN
  rintro ⟨k, f⟩ w1 ⟨hC1, hN1, hf, hk, hgo⟩
  simp only at hf hk hgo
  rcases Nat.lt_or_ge k c.symbols.length with hlt | hge
  · obtain ⟨p, hp, hc⟩ := H.symbols k hlt
    have hbad := fun hb => goSym_bad (c := c) (f := f) hlt hb
    have hokk := fun hb => goSym_ok (c := c) (f := f) hlt hb
    have hfn := hf.next hlt
    have hkind := hs.kinds _ (List.getElem_mem hlt)
    have hnm := hs.names _ (List.getElem_mem hlt)
    generalize hx : c.symbols[k] = s at *
    have e6 : (ccells c h)[0 + 9]? = some (.slice (some p) c.symbols.length (h 9).2) := by rw [← hp]; rfl
    repeat' (first
|(apply X_loadR;eq_refl;exact hN1;exact e6)
|(apply X_loadAP (scells s);eq_refl;eq_refl;exact (fun j u hj => cel_chg (hc j u hj) hC1 id))
|(apply WC_seqK;intro K hK)
|(apply hK;clear hK)
|(apply WC_block)
|(apply WC_region)
|(apply WL_nil)
|(apply thenQ_normal)
|(apply WC_skip)
|(apply WC_if_true;eq_refl)
|(apply WL_on0;eq_refl)
|(apply X_pv;eq_refl;first|exact trivial|omega)
|(apply X_field;eq_refl)
|(apply X_cmpT;eq_refl;eq_refl;omega)
|(apply X_len;eq_refl)
|(apply X_indexP;eq_refl;eq_refl;omega;omega)
|(apply X_alloc))
    refine X_doesU (does_storeA (t1 := 138) (vs := scells s) (o := 0) (b := w1.heap.size) (by eq_refl) (by eq_refl) (Blk.newA w1 _ _) rfl (by exact Nat.le_refl 3) (by simp [scells, Value.oneCell'])) ?_
    have hcc : Chg w1 ((w1.alloc (.cells #[.int .u8 0, nu 0, .string ⟨#[]⟩] 138)).setRow w1.heap.size (scells s).toArray) none_ := (Chg.alloc w1 _ none_).trans (Chg.setRow _ w1.heap.size _ (S := fun k => k = w1.heap.size) rfl) fun k hk h => by omega
    refine WL_turn (fun w2 => Chg w w2 none_ ∧ Blk w2 w.heap.size 29 (ccells c h) ∧ Blk w2 w1.heap.size 138 (scells s)) ⟨hC1.trans hcc fun _ _ h => h, hN1.chg hcc id, (Blk.newA w1 _ 138).set (scells s)⟩ ?_
    clear hcc hC1 hN1
    generalize w1.heap.size = b5
    rintro w2 ⟨hC2, hN2, hS2⟩
    repeat' (first
|(apply WC_midB 2 [(1, pt w.heap.size), (4, nu k), (5, pt b5), (6, nu (manyM c s.kind))] (fun W => W = w2))
|(apply WC_seqK;intro K hK)
|(apply hK;clear hK)
|(apply WC_block)
|(apply WC_region)
|(apply WL_nil)
|(apply thenQ_normal)
|(apply blockQ_normal)
|(apply WC_skip)
|(apply WC_if_true;eq_refl)
|(apply WC_if_false;eq_refl)
|(apply WL_on0;eq_refl)
|(apply X_pv;eq_refl;first|exact trivial|omega)
|(apply X_field;eq_refl)
|(apply X_loadR;eq_refl;(first|assumption|(apply Blk.alloc;assumption)|apply Blk.new|apply Blk.newA|(apply Blk.alloc;first|apply Blk.newA|(apply Blk.alloc;first|assumption|apply Blk.newA)));eq_refl)
|(apply X_cmp;eq_refl;eq_refl;all_goals intro _)
|(apply X_len;eq_refl))
    any_goals (refine ⟨rfl, ⟨rfl, rfl, rfl, congrArg (fun z => some (nu z)) ?_, trivial⟩, rfl⟩; unfold manyM; repeat (first | rw [if_pos (by assumption)] | rw [if_neg (by assumption)]))
    refine ⟨?_⟩
    rintro _ rfl
    obtain ⟨ok0, hok0⟩ : ∃ b : Bool, b = true ↔ (0 ≤ s.at_ ∧ s.at_ < manyM c s.kind ∧ 1 ≤ s.name.size ∧ s.name.size ≤ 64) := ⟨decide _, decide_eq_true_iff⟩
    generalize hM : manyM c s.kind = M at *
    rename_i w2
    repeat' (first
|(apply WC_midR 21 [(1, pt w.heap.size), (4, nu k), (5, pt b5), (7, .bool ok0)] (fun W => W = w2))
|(apply WC_region)
|(apply WL_nil)
|(apply WL_on0;eq_refl)
|(apply WL_onG;eq_refl;eq_refl;eq_refl;eq_refl)
|(apply WL_noG;eq_refl;eq_refl;eq_refl;eq_refl)
|(apply X_pv;eq_refl;first|exact trivial|omega)
|(apply X_field;eq_refl)
|(apply X_loadR;eq_refl;(first|assumption|(apply Blk.alloc;assumption)|apply Blk.new|apply Blk.newA|(apply Blk.alloc;first|apply Blk.newA|(apply Blk.alloc;first|assumption|apply Blk.newA)));eq_refl)
|(apply X_cmp;eq_refl;eq_refl;all_goals intro _)
|(apply X_lenS;eq_refl))
    any_goals (refine ⟨rfl, ⟨rfl, rfl, rfl, congrArg (fun z => some (Value.bool z)) ?_, trivial⟩, rfl⟩; first | (exact (hok0.2 (by omega)).symm) | (exact (Bool.eq_false_iff.2 fun hh => by have := hok0.1 hh; omega).symm))
    refine ⟨?_⟩
    rintro _ rfl
    rename_i w2
    obtain ⟨ok1, hok1⟩ : ∃ b : Bool, b = true ↔ (ok0 = true ∧ ¬ lowName s.name) := by classical exact ⟨decide _, decide_eq_true_iff⟩
    repeat' (first
|(apply WC_midB 3 [(1, pt w.heap.size), (4, nu k), (5, pt b5), (7, .bool ok1)] (fun W => W = w2))
|(apply WC_seqK;intro K hK)
|(apply hK;clear hK)
|(apply WC_block)
|(apply WC_region)
|(apply WL_nil)
|(apply thenQ_normal)
|(apply WL_on0;eq_refl)
|(apply X_pv;eq_refl;first|exact trivial|omega))
    · refine WC_loop (fun q : Nat × Bool => [(1, pt w.heap.size), (4, nu k), (5, pt b5), (7, .bool q.2), (8, nu q.1)])
        (fun q W => W = w2 ∧ q.1 ≤ s.name.size ∧ (q.2 = true → ok0 = true ∧ ∀ i, i < q.1 → ¬ byteAt s.name i < 32) ∧ (q.2 = false → ok0 = false ∨ lowName s.name)) (fun q => s.name.size - q.1) (0, ok0) ⟨rfl, rfl, rfl, rfl, rfl, trivial⟩ ⟨rfl, Nat.zero_le _, fun h => ⟨h, fun i hi => absurd hi (Nat.not_lt_zero _)⟩, fun h => .inl h⟩ ?_
      rintro ⟨j, ok⟩ w3 ⟨rfl, hj, hT, hF⟩
      simp only at hj hT hF
      cases ok with
      | false =>
        have e1 : false = ok1 := (Bool.eq_false_iff.2 fun hh => by
          obtain ⟨h1, h2⟩ := hok1.1 hh
          rcases hF rfl with g | g
          · rw [g] at h1; cases h1
          · exact h2 g).symm
        repeat' (first
|(apply WC_seqK;intro K hK)
|(apply hK;clear hK)
|(apply WC_region)
|(apply WL_nil)
|(apply thenQ_normal)
|(apply thenQ_exit)
|(apply blockQ_hit)
|(apply WC_exit)
|(apply WC_if_false;eq_refl)
|(apply WL_on0;eq_refl)
|(apply WL_noG;eq_refl;eq_refl;eq_refl;eq_refl)
|(apply X_pv;eq_refl;first|exact trivial|omega))
        exact ⟨rfl, ⟨rfl, rfl, rfl, congrArg (fun z => some (Value.bool z)) e1, trivial⟩, rfl⟩
      | true =>
        obtain ⟨hT1, hT2⟩ := hT rfl
        rcases Nat.lt_or_ge j s.name.size with hjl | hjg
        · repeat' (first
|(apply X_idxS;eq_refl;eq_refl;omega)
|(apply WC_seqK;intro K hK)
|(apply hK;clear hK)
|(apply WC_block)
|(apply WC_region)
|(apply WL_nil)
|(apply thenQ_normal)
|(apply blockQ_normal)
|(apply WC_skip)
|(apply WC_if_true;eq_refl)
|(apply WL_on0;eq_refl)
|(apply WL_onG;eq_refl;eq_refl;eq_refl;eq_refl)
|(apply X_pv;eq_refl;first|exact trivial|omega)
|(apply X_field;eq_refl)
|(apply X_loadR;eq_refl;(first|assumption|(apply Blk.alloc;assumption)|apply Blk.new|apply Blk.newA|(apply Blk.alloc;first|apply Blk.newA|(apply Blk.alloc;first|assumption|apply Blk.newA)));eq_refl)
|(apply X_cmpT;eq_refl;eq_refl;omega)
|(apply X_cmp;eq_refl;eq_refl;all_goals intro _)
|(apply X_lenS;eq_refl))
          · rename_i hb9
            have hb9 : 32 ≤ byteAt s.name j := hb9
            exact ⟨(j + 1, true), ⟨rfl, rfl, rfl, rfl, rfl, trivial⟩, ⟨rfl, hjl, fun _ => ⟨hT1, fun i hi => by
              rcases Nat.lt_or_ge i j with hh | hh
              · exact hT2 i hh
              · obtain rfl : i = j := by omega
                omega⟩, fun h => (by cases h)⟩, by simp only; omega⟩
          · rename_i hb9
            have hb9 : ¬ 32 ≤ byteAt s.name j := hb9
            exact ⟨(j + 1, false), ⟨rfl, rfl, rfl, rfl, rfl, trivial⟩, ⟨rfl, hjl, fun h => (by cases h), fun _ => .inr ⟨j, hjl, by omega⟩⟩, by simp only; omega⟩
        · have e1 : true = ok1 := (hok1.2 ⟨hT1, fun ⟨i, hi, hb⟩ => hT2 i (by omega) hb⟩).symm
          repeat' (first
|(apply WC_seqK;intro K hK)
|(apply hK;clear hK)
|(apply WC_region)
|(apply WL_nil)
|(apply thenQ_normal)
|(apply thenQ_exit)
|(apply blockQ_hit)
|(apply WC_exit)
|(apply WC_if_false;eq_refl)
|(apply WL_on0;eq_refl)
|(apply WL_onG;eq_refl;eq_refl;eq_refl;eq_refl)
|(apply X_pv;eq_refl;first|exact trivial|omega)
|(apply X_field;eq_refl)
|(apply X_loadR;eq_refl;(first|assumption|(apply Blk.alloc;assumption)|apply Blk.new|apply Blk.newA|(apply Blk.alloc;first|apply Blk.newA|(apply Blk.alloc;first|assumption|apply Blk.newA)));eq_refl)
|(apply X_cmpF;eq_refl;eq_refl;omega)
|(apply X_lenS;eq_refl))
          exact ⟨rfl, ⟨rfl, rfl, rfl, congrArg (fun z => some (Value.bool z)) e1, trivial⟩, rfl⟩
    refine ⟨?_⟩
    rintro _ rfl
    rename_i w2
    obtain ⟨ok2, hok2⟩ : ∃ b : Bool, b = true ↔ (ok1 = true ∧ ∀ q (hq : q < c.symbols.length), q < k → ¬ (c.symbols[q].kind = s.kind ∧ c.symbols[q].at_ = s.at_)) := by classical exact ⟨decide _, decide_eq_true_iff⟩
    repeat' (first
|(apply WC_midB 5 [(1, pt w.heap.size), (4, nu k), (5, pt b5), (7, .bool ok2)] (fun W => Chg w W none_ ∧ Blk W w.heap.size 29 (ccells c h)))
|(apply WC_seqK;intro K hK)
|(apply hK;clear hK)
|(apply WC_block)
|(apply WC_region)
|(apply WL_nil)
|(apply thenQ_normal)
|(apply WL_on0;eq_refl)
|(apply X_pv;eq_refl;first|exact trivial|omega))
    · refine WC_loop (fun q : Nat × Bool => [(1, pt w.heap.size), (4, nu k), (5, pt b5), (7, .bool q.2), (9, nu q.1)])
        (fun q W => (Chg w W none_ ∧ Blk W w.heap.size 29 (ccells c h) ∧ Blk W b5 138 (scells s)) ∧ q.1 ≤ k ∧ (q.2 = true → ok1 = true ∧ ∀ i (hi : i < c.symbols.length), i < q.1 → ¬ (c.symbols[i].kind = s.kind ∧ c.symbols[i].at_ = s.at_)) ∧ (q.2 = false → ok1 = false ∨ ∃ i, ∃ hi : i < c.symbols.length, i < k ∧ c.symbols[i].kind = s.kind ∧ c.symbols[i].at_ = s.at_)) (fun q => k - q.1) (0, ok1) ⟨rfl, rfl, rfl, rfl, rfl, trivial⟩ ⟨⟨hC2, hN2, hS2⟩, Nat.zero_le _, fun h => ⟨h, fun i _ hi => absurd hi (Nat.not_lt_zero _)⟩, fun h => .inl h⟩ ?_
      rintro ⟨j, ok⟩ w3 ⟨⟨hC3, hN3, hS3⟩, hj, hT, hF⟩
      simp only at hj hT hF
      cases ok with
      | false =>
        have e1 : false = ok2 := (Bool.eq_false_iff.2 fun hh => by
          obtain ⟨h1, h2⟩ := hok2.1 hh
          rcases hF rfl with g | ⟨i, hi, g1, g2⟩
          · rw [g] at h1; cases h1
          · exact h2 i hi g1 g2).symm
        repeat' (first
|(apply WC_seqK;intro K hK)
|(apply hK;clear hK)
|(apply WC_region)
|(apply WL_nil)
|(apply thenQ_normal)
|(apply thenQ_exit)
|(apply blockQ_hit)
|(apply WC_exit)
|(apply WC_if_false;eq_refl)
|(apply WL_on0;eq_refl)
|(apply WL_noG;eq_refl;eq_refl;eq_refl;eq_refl)
|(apply X_pv;eq_refl;first|exact trivial|omega))
        exact ⟨rfl, ⟨rfl, rfl, rfl, congrArg (fun z => some (Value.bool z)) e1, trivial⟩, hC3, hN3⟩
      | true =>
        obtain ⟨hT1, hT2⟩ := hT rfl
        rcases Nat.lt_or_ge j k with hjl | hjg
        · have hjs : j < c.symbols.length := by omega
          obtain ⟨p2, hp2, hc2⟩ := H.symbols j hjs
          rw [hp] at hp2
          cases hp2
          have hT3 := hT2
          generalize hy : c.symbols[j] = y at *
          repeat' (first
|(apply WC_seqK;intro K hK)
|(apply hK;clear hK)
|(apply WC_block)
|(apply WC_region)
|(apply WL_nil)
|(apply thenQ_normal)
|(apply WC_skip)
|(apply WC_if_true;eq_refl)
|(apply WL_on0;eq_refl)
|(apply WL_onG;eq_refl;eq_refl;eq_refl;eq_refl)
|(apply X_pv;eq_refl;first|exact trivial|omega)
|(apply X_cmpT;eq_refl;eq_refl;omega))
          refine WC_draws [(0, true), (1, true), (2, true), (3, true), (4, true), (5, true), (6, true), (7, true), (8, true), (9, true), (10, true), (11, true), (12, true), (13, true), (14, true), (15, true), (16, true), (17, true), (18, true), (19, true), (20, true)] (fun W => Chg w W none_ ∧ Blk W w.heap.size 29 (ccells c h) ∧ Blk W b5 138 (scells s)) mixed (by kernel_rfl) (by kernel_rfl) ?_
          have hS : Chg w w3.drew none_ ∧ Blk w3.drew w.heap.size 29 (ccells c h) ∧ Blk w3.drew b5 138 (scells s) := ⟨hC3.dr, hN3, hS3⟩
          by_cases hkk : y.kind = s.kind
          · by_cases haa : y.at_ = s.at_
            · repeat' (first
|(apply O_loadR;eq_refl;(exact fun _ h => h.2.1);exact e6;assumption)
|(apply O_loadR;eq_refl;(exact fun _ h => h.2.2);eq_refl;assumption)
|(apply O_loadC;eq_refl;(exact fun W h => cel_chg (hc2 0 _ rfl) h.1 id);assumption)
|(apply O_loadC;eq_refl;(exact fun W h => cel_chg (hc2 1 _ rfl) h.1 id);assumption)
|(apply hK;clear hK)
|(apply WC_region)
|(apply WL_nil)
|(apply thenQ_normal)
|(apply blockQ_normal)
|(apply WS_nil)
|(apply WS_next;eq_refl)
|(apply WO_on0;eq_refl)
|(apply WO_onG;eq_refl;eq_refl;eq_refl;eq_refl)
|(apply O_pv;eq_refl;(first|exact trivial|omega);(first|assumption|exact trivial))
|(apply O_field;eq_refl;(first|assumption|exact trivial))
|(apply O_cmpF;eq_refl;eq_refl;omega;(first|assumption|exact trivial))
|(apply O_indexP;eq_refl;eq_refl;omega;omega;(first|assumption|exact trivial))
|(apply O_fieldP;eq_refl;(first|assumption|exact trivial))
|(apply WL_on0;eq_refl)
|(apply X_pv;eq_refl;first|exact trivial|omega))
              exact ⟨(j + 1, false), ⟨rfl, rfl, rfl, rfl, rfl, trivial⟩, ⟨hS, hjl, fun h => (by cases h), fun _ => .inr ⟨j, hjs, hjl, by rw [hy]; exact ⟨hkk, haa⟩⟩⟩, by simp only; omega⟩
            · repeat' (first
|(apply O_loadR;eq_refl;(exact fun _ h => h.2.1);exact e6;assumption)
|(apply O_loadR;eq_refl;(exact fun _ h => h.2.2);eq_refl;assumption)
|(apply O_loadC;eq_refl;(exact fun W h => cel_chg (hc2 0 _ rfl) h.1 id);assumption)
|(apply O_loadC;eq_refl;(exact fun W h => cel_chg (hc2 1 _ rfl) h.1 id);assumption)
|(apply hK;clear hK)
|(apply WC_region)
|(apply WL_nil)
|(apply thenQ_normal)
|(apply blockQ_normal)
|(apply WS_nil)
|(apply WS_next;eq_refl)
|(apply WO_on0;eq_refl)
|(apply WO_onG;eq_refl;eq_refl;eq_refl;eq_refl)
|(apply O_pv;eq_refl;(first|exact trivial|omega);(first|assumption|exact trivial))
|(apply O_field;eq_refl;(first|assumption|exact trivial))
|(apply O_cmpT;eq_refl;eq_refl;omega;(first|assumption|exact trivial))
|(apply O_cmpF;eq_refl;eq_refl;omega;(first|assumption|exact trivial))
|(apply O_indexP;eq_refl;eq_refl;omega;omega;(first|assumption|exact trivial))
|(apply O_fieldP;eq_refl;(first|assumption|exact trivial))
|(apply WL_on0;eq_refl)
|(apply X_pv;eq_refl;first|exact trivial|omega))
              refine ⟨(j + 1, true), ⟨rfl, rfl, rfl, rfl, rfl, trivial⟩, ⟨hS, hjl, fun _ => ⟨hT1, fun i hi hij => ?_⟩, fun h => (by cases h)⟩, by simp only; omega⟩
              rcases Nat.lt_or_ge i j with hh | hh
              · exact hT3 i hi hh
              · obtain rfl : i = j := by omega
                rw [hy]; exact fun hh => haa hh.2
          · repeat' (first
|(apply O_loadR;eq_refl;(exact fun _ h => h.2.1);exact e6;assumption)
|(apply O_loadR;eq_refl;(exact fun _ h => h.2.2);eq_refl;assumption)
|(apply O_loadC;eq_refl;(exact fun W h => cel_chg (hc2 0 _ rfl) h.1 id);assumption)
|(apply hK;clear hK)
|(apply WC_region)
|(apply WL_nil)
|(apply thenQ_normal)
|(apply blockQ_normal)
|(apply WS_nil)
|(apply WS_next;eq_refl)
|(apply WO_on0;eq_refl)
|(apply WO_noG;eq_refl;eq_refl;eq_refl;eq_refl;(first|assumption|exact trivial))
|(apply O_pv;eq_refl;(first|exact trivial|omega);(first|assumption|exact trivial))
|(apply O_field;eq_refl;(first|assumption|exact trivial))
|(apply O_cmpT;eq_refl;eq_refl;omega;(first|assumption|exact trivial))
|(apply O_indexP;eq_refl;eq_refl;omega;omega;(first|assumption|exact trivial))
|(apply O_fieldP;eq_refl;(first|assumption|exact trivial))
|(apply WL_on0;eq_refl)
|(apply X_pv;eq_refl;first|exact trivial|omega))
            refine ⟨(j + 1, true), ⟨rfl, rfl, rfl, rfl, rfl, trivial⟩, ⟨hS, hjl, fun _ => ⟨hT1, fun i hi hij => ?_⟩, fun h => (by cases h)⟩, by simp only; omega⟩
            rcases Nat.lt_or_ge i j with hh | hh
            · exact hT3 i hi hh
            · obtain rfl : i = j := by omega
              rw [hy]; exact fun hh => hkk hh.1
        · have e1 : true = ok2 := (hok2.2 ⟨hT1, fun i hi hik => hT2 i hi (by omega)⟩).symm
          repeat' (first
|(apply WC_seqK;intro K hK)
|(apply hK;clear hK)
|(apply WC_region)
|(apply WL_nil)
|(apply thenQ_normal)
|(apply thenQ_exit)
|(apply blockQ_hit)
|(apply WC_exit)
|(apply WC_if_false;eq_refl)
|(apply WL_on0;eq_refl)
|(apply WL_onG;eq_refl;eq_refl;eq_refl;eq_refl)
|(apply X_pv;eq_refl;first|exact trivial|omega)
|(apply X_cmpF;eq_refl;eq_refl;omega))
          exact ⟨rfl, ⟨rfl, rfl, rfl, congrArg (fun z => some (Value.bool z)) e1, trivial⟩, hC3, hN3⟩
    refine ⟨?_⟩
    rintro w4 ⟨hC4, hN4⟩
    have hsb : ok2 = true ↔ ¬ symBad c f s := by
      rw [hok2, hok1, hok0]
      have hsz : s.name = ByteArray.empty ↔ s.name.size = 0 := ⟨fun h => by rw [h]; rfl, fun h => ByteArray.size_eq_zero_iff.1 h⟩
      have hff : 0 < f s.kind s.at_ ↔ ∃ q, ∃ hq : q < c.symbols.length, q < k ∧ c.symbols[q].kind = s.kind ∧ c.symbols[q].at_ = s.at_ := (hf _ _).2
      unfold symBad
      rw [hM, hff, hsz]
      constructor
      · rintro ⟨⟨⟨h1, h2, h3, h4⟩, h5⟩, h6⟩ (g | g | g | g | ⟨q, hq, g1, g2⟩ | g)
        · omega
        · omega
        · omega
        · omega
        · exact h6 q hq g1 g2
        · exact h5 g
      · intro hb
        refine ⟨⟨⟨?_, ?_, ?_, ?_⟩, fun g => hb (.inr (.inr (.inr (.inr (.inr g)))))⟩, fun q hq g1 g2 => hb (.inr (.inr (.inr (.inr (.inl ⟨q, hq, g1, g2⟩)))))⟩
        · exact Int.not_lt.1 fun g => hb (.inl g)
        · exact Int.not_le.1 fun g => hb (.inr (.inl g))
        · exact Nat.pos_of_ne_zero fun g => hb (.inr (.inr (.inl g)))
        · exact Nat.not_lt.1 fun g => hb (.inr (.inr (.inr (.inl g))))
    cases ok2 with
    | false =>
      have hb : symBad c f s := Classical.byContradiction fun g => by have := hsb.2 g; cases this
      rw [hbad hb] at hgo
      repeat' (first
|(apply WC_seqK;intro K hK)
|(apply hK;clear hK)
|(apply WC_region)
|(apply WL_nil)
|(apply thenQ_normal)
|(apply thenQ_ret)
|(apply blockQ_ret)
|(apply WC_ret)
|(apply WC_if_true;eq_refl)
|(apply ret2;eq_refl;eq_refl)
|(apply WL_on0;eq_refl)
|(apply X_pv;eq_refl;first|exact trivial|omega))
      refine ⟨?_, hC4⟩
      first | rw [if_pos (by omega), if_pos (by omega), hgo] | rw [hr, if_pos (by omega), if_pos (by omega), hgo]
    | true =>
      rw [hokk (hsb.1 rfl)] at hgo
      repeat' (first
|(apply WC_seqK;intro K hK)
|(apply hK;clear hK)
|(apply WC_region)
|(apply WL_nil)
|(apply thenQ_normal)
|(apply blockQ_normal)
|(apply WC_skip)
|(apply WC_if_false;eq_refl)
|(apply WL_on0;eq_refl)
|(apply X_pv;eq_refl;first|exact trivial|omega))
      exact ⟨(k + 1, _), ⟨rfl, rfl, trivial⟩, ⟨hC4, hN4, hfn, hlt, hgo⟩, by simp only; omega⟩
  · rw [List.drop_eq_nil_of_le hge] at hgo
    have e : r = -1 := hgo.symm
    repeat' (first
|(apply WC_seqK;intro K hK)
|(apply hK;clear hK)
|(clear hK;apply hK;clear hK)
|(apply WC_region)
|(apply WL_nil)
|(apply thenQ_normal)
|(apply thenQ_exit)
|(apply blockQ_hit)
|(apply WC_ret)
|(apply WC_exit)
|(apply WC_if_false;eq_refl)
|(apply ret2;eq_refl;eq_refl)
|(apply WL_on0;eq_refl)
|(apply X_pv;eq_refl;first|exact trivial|omega)
|(apply X_field;eq_refl)
|(apply X_loadR;eq_refl;(first|assumption|(apply Blk.alloc;assumption)|apply Blk.new|apply Blk.newA|(apply Blk.alloc;first|apply Blk.newA|(apply Blk.alloc;first|assumption|apply Blk.newA)));eq_refl)
|(apply X_cmpF;eq_refl;eq_refl;omega)
|(apply X_len;eq_refl))
    exact ⟨by rw [hr, e, if_neg (by decide), if_neg (by decide)], hC1⟩
end SC
end Go.Proofs.YtbmngkdnebklpaaGreat
end
section
/- trestleref03: Check. -/
set_option linter.unusedVariables false
set_option linter.unusedSimpArgs false
namespace Go.Proofs.YtbmngkdnebklpaaGreat
namespace SC
open Go.Proofs
theorem mem_bytesI {s : ByteArray} {x : Int} : x ∈ bytesI s ↔ ∃ k, k < s.size ∧ byteAt s k = x := by
  have hl : (bytesI s).length = s.size := bytesI_len s
  have hb : ∀ k, byteAt s k = (bytesI s).getD k 0 := fun k => rfl
  constructor
  · intro h
    obtain ⟨k, hk, rfl⟩ := List.mem_iff_getElem.1 h
    exact ⟨k, by omega, by rw [hb]; simp [hk]⟩
  · rintro ⟨k, hk, rfl⟩
    have hk' : k < (bytesI s).length := by omega
    rw [hb, List.getD_eq_getElem?_getD, List.getElem?_eq_getElem hk']
    exact List.getElem_mem hk'
attribute [local irreducible] WC WL WX WS WO OX Does DoesU Enters CV Pure thenQ blockQ retQ Wants retQC
set_option maxRecDepth 100000
theorem checkRef_cv {w : World} {c : Circ} {h js : Hd} (H : CirAt w c h js) (hs : c.Sane) (ho : c.Okay) (hf : c.Fits) : CV Tryz.prog 46 [.agg (ccells c h).toArray] w fun v w' => v = .tuple #[nu (lookM c).1, nu (lookM c).2] ∧ Chg w w' none_ := by
  have hI0 : Blk (w.alloc (.cells (ccells c h).toArray 29)) w.heap.size 29 (ccells c h) := Blk.new w _ _
  have hC0 := Chg.alloc w (.cells (ccells c h).toArray 29) none_
  have hsz := size_cv (H.chg hC0) hf ho
  refine enter 97 [2, 3] Tryz.func46 rfl rfl rfl (by decide) rfl ?_
  repeat' (first
|(apply X_fn;eq_refl;exact hsz;rintro _ w1 ⟨rfl, hC1⟩;have hI1 := hI0.chg hC1 id;have hC1' := hC0.trans hC1 fun _ _ h => h)
|(apply WC_seqK;intro K hK)
|(apply hK;clear hK)
|(apply WC_region)
|(apply WL_nil)
|(apply thenQ_normal)
|(apply thenQ_ret)
|(apply WC_ret)
|(apply WC_skip)
|(apply WC_if_true;eq_refl)
|(apply WC_if_false;eq_refl)
|(apply ret2;eq_refl;eq_refl)
|(apply WL_on0;eq_refl)
|(apply X_pv;eq_refl;first|exact trivial|omega)
|(apply X_loadW;eq_refl;(first|assumption|(apply Blk.alloc;assumption)|apply Blk.new|apply Blk.newA|(apply Blk.alloc;first|apply Blk.newA|(apply Blk.alloc;first|assumption|apply Blk.newA)));eq_refl)
|(apply X_cmp;eq_refl;eq_refl;all_goals intro _)
|(apply X_box;eq_refl))
  · exact ⟨by unfold lookM; rw [if_pos (by assumption)], hC1'⟩
  have hz : sizesM c = 0 := Classical.byContradiction (by assumption)
  obtain ⟨hm0, hm1, hln, hsum⟩ := sizesM_ok hz
  have hdf := defined_cv (H.chg hC1') ho ⟨hm0, hm1⟩
  have hl1 : lookM c = if (definesM c (T0 c)).1.2 ≠ 0 then (definesM c (T0 c)).1
    else if (usesM c (tabM c)).2 ≠ 0 then usesM c (tabM c)
    else if 0 ≤ cycM c.ands.length (gateB (tabM c) c) then (cycM c.ands.length (gateB (tabM c) c), 34)
    else if 0 ≤ goSym c c.symbols 0 (fun _ _ => 0) then (goSym c c.symbols 0 (fun _ _ => 0), 35)
    else if 0 ≤ goCom c.comments 0 then (goCom c.comments 0, 36)
    else (0, 0) := by unfold lookM; rw [if_neg (by assumption)]
  repeat' (first
|(apply X_fn;eq_refl;exact hdf;rintro _ w2 ⟨hC2, ⟨hd, rfl⟩|⟨hd, b, n, hb0, hn, hnl, rfl, hB2⟩⟩)
|(apply WC_seqK;intro K hK)
|(apply hK;clear hK)
|(apply WC_region)
|(apply WL_nil)
|(apply thenQ_normal)
|(apply thenQ_ret)
|(apply WC_ret)
|(apply WC_skip)
|(apply WC_if_true;eq_refl)
|(apply WC_if_false;eq_refl)
|(apply ret2;eq_refl;eq_refl)
|(apply WL_on0;eq_refl)
|(apply X_pv;eq_refl;first|exact trivial|omega)
|(apply X_cmpT;eq_refl;eq_refl;omega)
|(apply X_cmpF;eq_refl;eq_refl;omega))
  · exact ⟨by rw [hl1, if_pos hd], hC1'.trans hC2 fun _ _ h => h⟩
  rw [if_neg (fun hh => hh hd)] at hl1
  have hTO : TabOk c (tabM c) := definesM_spec hm0 hd
  have hC2' := hC1'.trans hC2 fun _ _ h => h
  have hI2 := hI1.chg hC2 id
  have hus := uses_cv' (H.chg hC2') ho ⟨hm0, hm1⟩ hB2 (by rw [hnl]; exact hn) hnl.symm
  repeat' (first
|(apply X_fn;eq_refl;exact hus;rintro _ w3 ⟨rfl, hC3⟩;have hI3 := hI2.chg hC3 id;have hC3' := hC2'.trans hC3 fun _ _ h => h)
|(apply WC_seqK;intro K hK)
|(apply hK;clear hK)
|(apply WC_region)
|(apply WL_nil)
|(apply thenQ_normal)
|(apply thenQ_ret)
|(apply WC_ret)
|(apply WC_skip)
|(apply WC_if_true;eq_refl)
|(apply WC_if_false;eq_refl)
|(apply ret2;eq_refl;eq_refl)
|(apply WL_on0;eq_refl)
|(apply X_pv;eq_refl;first|exact trivial|omega)
|(apply X_loadW;eq_refl;(first|assumption|(apply Blk.alloc;assumption)|apply Blk.new|apply Blk.newA|(apply Blk.alloc;first|apply Blk.newA|(apply Blk.alloc;first|assumption|apply Blk.newA)));eq_refl)
|(apply X_cmp;eq_refl;eq_refl;all_goals intro _))
  · exact ⟨by rw [hl1, if_pos (by assumption)], hC3'⟩
  have hu0 : (usesM c (tabM c)).2 = 0 := Classical.byContradiction (by assumption)
  rw [if_neg (fun hh => hh hu0)] at hl1
  have hUA := usesM_spec.1 hu0
  have hna : c.ands.length ≤ 16384 := by have := hln (c.ands.length : Int) (by simp [Circ.lens]); omega
  have hB := hTO.below hUA
  clear hus hdf hsz hB2
  refine WC_draws [(0, true), (3, true), (4, true), (5, true), (1, false), (2, true), (6, true)] (fun W => Chg w W none_ ∧ Blk W w.heap.size 29 (ccells c h)) mixed (by kernel_rfl) (by kernel_rfl) ?_
  have hS : Chg w w3.drew none_ ∧ Blk w3.drew w.heap.size 29 (ccells c h) := ⟨hC3'.dr, hI3⟩
  have htd := told_cv (H.chg hS.1) hTO hUA ⟨hm0, hm1⟩ hna
  repeat' (first
|(apply O_loadW;eq_refl;(exact fun _ h => h.2);eq_refl;assumption)
|(apply O_loadR;eq_refl;(exact fun _ h => h.2);eq_refl;assumption)
|(apply O_fn;eq_refl;exact htd;rintro v4 w4 ⟨hC4, out, hall, hrow⟩;obtain ⟨A4, cp4, rfl⟩ := row_form' hrow;have hS4 : Chg w w4 none_ ∧ Blk w4 w.heap.size 29 (ccells c h) := ⟨hS.1.trans hC4 fun k hk hh => hh, hS.2.chg hC4 id⟩;have hol := hall.told.size;refine ⟨fun _ => hS4, ?_⟩)
|(apply WC_seqK;intro K hK)
|(apply hK;clear hK)
|(apply WC_region)
|(apply thenQ_normal)
|(apply WC_skip)
|(apply WC_if_true;eq_refl)
|(apply WC_if_false;eq_refl)
|(apply WS_nil)
|(apply WS_next;eq_refl)
|(apply WO_on0;eq_refl)
|(apply O_field;eq_refl;(first|assumption|exact trivial))
|(apply O_cmp;eq_refl;eq_refl;(first|assumption|exact trivial);all_goals intro _)
|(apply O_len;eq_refl;(first|assumption|exact trivial))
|(apply WL_on0;eq_refl))
  all_goals obtain ⟨hC4', hI4⟩ := hS4
  · have hlt0 : out.length < c.ands.length := by omega
    have hgt := gates80_cv (H.chg hC4') hTO ⟨hm0, hm1⟩ hna
    repeat' (first
|(apply X_fn;eq_refl;exact hgt;rintro _ w5 ⟨rfl, hG5, hC5⟩;have hI5 := hI4.chg hC5 id;have hC5' := hC4'.trans hC5 fun _ _ h => h)
|(apply WC_seqK;intro K hK)
|(apply hK;clear hK)
|(apply WC_block)
|(apply WC_region)
|(apply WL_nil)
|(apply thenQ_normal)
|(apply WL_on0;eq_refl)
|(apply X_pv;eq_refl;first|exact trivial|omega)
|(apply X_loadW;eq_refl;(first|assumption|(apply Blk.alloc;assumption)|apply Blk.new|apply Blk.newA|(apply Blk.alloc;first|apply Blk.newA|(apply Blk.alloc;first|assumption|apply Blk.newA)));eq_refl))
    generalize w4.heap.size + 1 = g at *
    refine WC_loop (fun i : Nat => [(1, pt w.heap.size), (10, .slice (some ⟨g, 0, none⟩) (gatesM c).length (gatesM c).length), (11, nu i)])
      (fun i W => Chg w W none_ ∧ Blk W w.heap.size 29 (ccells c h) ∧ Blk W g 3 ((gatesM c).map nu) ∧ i ≤ c.ands.length ∧ ∀ j, rg c.ands.length j → j < (i : Int) → ¬ Hangs (gateB (tabM c) c) j j) (fun i => c.ands.length - i) 0 ⟨rfl, rfl, rfl, trivial⟩ ⟨hC5', hI5, hG5, Nat.zero_le _, fun j hj hj2 => by unfold rg at hj; omega⟩ ?_
    clear hC5' hI5 hG5 hC5 w5
    rintro i w5 ⟨hC5, hI5, hG5, hi, hno⟩
    rcases Nat.lt_or_ge i c.ands.length with hlt | hge
    · have hri : rg c.ands.length (i : Int) := ⟨by omega, by omega⟩
      have hrd := round_cv (H.chg hC5) hG5 hTO hUA ⟨hm0, hm1⟩ hna hri
      repeat' (first
|(apply X_fn;eq_refl;exact hrd;rintro _ w6 ⟨b, rfl, hb6, hC6⟩;have hI6 := hI5.chg hC6 id;have hC6' := hC5.trans hC6 fun _ _ h => h;cases b)
|(apply WC_seqK;intro K hK)
|(apply hK;clear hK)
|(apply WC_block)
|(apply WC_region)
|(apply WL_nil)
|(apply thenQ_normal)
|(apply thenQ_ret)
|(apply blockQ_ret)
|(apply blockQ_normal)
|(apply WC_ret)
|(apply WC_skip)
|(apply WC_if_true;eq_refl)
|(apply WC_if_false;eq_refl)
|(apply ret2;eq_refl;eq_refl)
|(apply WL_on0;eq_refl)
|(apply X_pv;eq_refl;first|exact trivial|omega)
|(apply X_field;eq_refl)
|(apply X_loadR;eq_refl;(first|assumption|(apply Blk.alloc;assumption)|apply Blk.new|apply Blk.newA|(apply Blk.alloc;first|apply Blk.newA|(apply Blk.alloc;first|assumption|apply Blk.newA)));eq_refl)
|(apply X_loadW;eq_refl;(first|assumption|(apply Blk.alloc;assumption)|apply Blk.new|apply Blk.newA|(apply Blk.alloc;first|apply Blk.newA|(apply Blk.alloc;first|assumption|apply Blk.newA)));eq_refl)
|(apply X_cmpT;eq_refl;eq_refl;omega)
|(apply X_len;eq_refl))
      · refine ⟨i + 1, ⟨rfl, rfl, rfl, trivial⟩, ⟨hC6', hI6, hG5.chg hC6 id, hlt, fun j hj hji hh => ?_⟩, by omega⟩
        rcases Int.lt_or_le j (i : Int) with h1 | h1
        · exact hno j hj h1 hh
        · have : j = i := by omega
          subst this
          have := hb6.2 hh
          cases this
      · have hcy : CycOf c.ands.length (gateB (tabM c) c) (i : Int) := ⟨out, hall, .inr ⟨hlt0, hri, hb6.1 rfl, hno⟩⟩
        rw [cycM_eq hcy, if_pos (by omega)] at hl1
        exact ⟨by rw [hl1], hC6'⟩
    · obtain ⟨j, hj, hh⟩ := hall.round hB hlt0
      exact absurd hh (hno j hj (by unfold rg at hj; omega))
  have hcy : CycOf c.ands.length (gateB (tabM c) c) (-1) := ⟨out, hall, .inl ⟨by omega, rfl⟩⟩
  rw [cycM_eq hcy, if_neg (by decide)] at hl1
  have hsy := symbols82_cv (H.chg hC4') hs
  by_cases hgs : 0 ≤ goSym c c.symbols 0 fun _ _ => 0
  · rw [if_pos hgs, if_pos hgs] at hsy
    rw [if_pos hgs] at hl1
    repeat' (first
|(apply X_fn;eq_refl;exact hsy;rintro _ w5 ⟨rfl, hC5⟩)
|(apply WC_seqK;intro K hK)
|(apply hK;clear hK)
|(apply WC_region)
|(apply WL_nil)
|(apply thenQ_normal)
|(apply thenQ_ret)
|(apply WC_ret)
|(apply WC_if_true;eq_refl)
|(apply ret2;eq_refl;eq_refl)
|(apply WL_on0;eq_refl)
|(apply X_pv;eq_refl;first|exact trivial|omega)
|(apply X_loadW;eq_refl;(first|assumption|(apply Blk.alloc;assumption)|apply Blk.new|apply Blk.newA|(apply Blk.alloc;first|apply Blk.newA|(apply Blk.alloc;first|assumption|apply Blk.newA)));eq_refl)
|(apply X_cmpT;eq_refl;eq_refl;omega))
    exact ⟨by rw [hl1], hC4'.trans hC5 fun _ _ h => h⟩
  rw [if_neg hgs, if_neg hgs] at hsy
  rw [if_neg hgs] at hl1
  repeat' (first
|(apply X_fn;eq_refl;exact hsy;rintro _ w5 ⟨rfl, hC5⟩;have hI5 := hI4.chg hC5 id;have hC5' := hC4'.trans hC5 fun _ _ h => h)
|(apply WC_seqK;intro K hK)
|(apply hK;clear hK)
|(apply WC_block)
|(apply WC_region)
|(apply WL_nil)
|(apply thenQ_normal)
|(apply WC_skip)
|(apply WC_if_false;eq_refl)
|(apply WL_on0;eq_refl)
|(apply X_pv;eq_refl;first|exact trivial|omega)
|(apply X_loadW;eq_refl;(first|assumption|(apply Blk.alloc;assumption)|apply Blk.new|apply Blk.newA|(apply Blk.alloc;first|apply Blk.newA|(apply Blk.alloc;first|assumption|apply Blk.newA)));eq_refl)
|(apply X_cmpF;eq_refl;eq_refl;omega))
  have hkl := hs.lens.2.2.2.2.2.2.2.2.2
  have htx := hs.texts
  refine WC_loop (fun i : Nat => [(1, pt w.heap.size), (14, nu i)]) (fun i W => Chg w W none_ ∧ Blk W w.heap.size 29 (ccells c h) ∧ i ≤ c.comments.length ∧ goCom (c.comments.drop i) i = goCom c.comments 0) (fun i => c.comments.length - i) 0 ⟨rfl, rfl, trivial⟩ ⟨hC5', hI5, Nat.zero_le _, rfl⟩ ?_
  clear hsy hC5' hI5 hC5 w5
  rintro i w5 ⟨hC5, hI5, hi, hgo⟩
  rcases Nat.lt_or_ge i c.comments.length with hlt | hge
  · obtain ⟨p, hp, hpc⟩ := (H.chg hC5).comments.one hlt (v := .string c.comments[i]) rfl
    rw [goCom_step hlt] at hgo
    have htl := htx _ (List.getElem_mem hlt)
    generalize hx : c.comments[i] = s at *
    have e6 : (ccells c h)[0 + 10]? = some (.slice (some p) c.comments.length (h 10).2) := by rw [← hp]; rfl
    repeat' (first
|(apply WC_seqK;intro K hK)
|(apply hK;clear hK)
|(apply WC_block)
|(apply WC_region)
|(apply WL_nil)
|(apply thenQ_normal)
|(apply WC_skip)
|(apply WC_if_true;eq_refl)
|(apply WL_on0;eq_refl)
|(apply X_pv;eq_refl;first|exact trivial|omega)
|(apply X_field;eq_refl)
|(apply X_loadR;eq_refl;(first|assumption|(apply Blk.alloc;assumption)|apply Blk.new|apply Blk.newA|(apply Blk.alloc;first|apply Blk.newA|(apply Blk.alloc;first|assumption|apply Blk.newA)));eq_refl)
|(apply X_cmpT;eq_refl;eq_refl;omega)
|(apply X_len;eq_refl))
    refine WC_loop (fun k : Nat => [(1, pt w.heap.size), (14, nu i), (15, nu k)]) (fun k W => W = w5 ∧ k ≤ s.size ∧ ∀ j, j < k → byteAt s j ≠ 10) (fun k => s.size - k) 0 ⟨rfl, rfl, rfl, trivial⟩ ⟨rfl, Nat.zero_le _, fun j hj => absurd hj (Nat.not_lt_zero _)⟩ ?_
    rintro k w6 ⟨rfl, hk, hall10⟩
    rcases Nat.lt_or_ge k s.size with hkl2 | hkg
    · repeat' (first
|(apply X_loadR;eq_refl;exact hI5;exact e6)
|(apply X_loadC;eq_refl;exact hpc)
|(apply X_idxS;eq_refl;eq_refl;omega)
|(apply WC_seqK;intro K hK)
|(apply hK;clear hK)
|(apply WC_block)
|(apply WC_region)
|(apply WL_nil)
|(apply thenQ_normal)
|(apply thenQ_ret)
|(apply blockQ_ret)
|(apply blockQ_normal)
|(apply WC_ret)
|(apply WC_skip)
|(apply WC_if_true;eq_refl)
|(apply WC_if_false;eq_refl)
|(apply ret2;eq_refl;eq_refl)
|(apply WL_on0;eq_refl)
|(apply X_pv;eq_refl;first|exact trivial|omega)
|(apply X_field;eq_refl)
|(apply X_cmpT;eq_refl;eq_refl;omega)
|(apply X_cmp;eq_refl;eq_refl;all_goals intro _)
|(apply X_lenS;eq_refl)
|(apply X_indexP;eq_refl;eq_refl;omega;omega))
      · rw [if_pos (mem_bytesI.2 ⟨k, hkl2, by assumption⟩)] at hgo
        rw [← hgo, if_pos (by omega)] at hl1
        exact ⟨by rw [hl1], hC5⟩
      · exact ⟨k + 1, ⟨rfl, rfl, rfl, trivial⟩, ⟨rfl, hkl2, fun j hj => by
          rcases Nat.lt_or_ge j k with h1 | h1
          · exact hall10 j h1
          · have : j = k := by omega
            subst this
            assumption⟩, by omega⟩
    · rw [if_neg (fun hh => by
        obtain ⟨j, hj, hj2⟩ := mem_bytesI.1 hh
        exact hall10 j (by omega) hj2)] at hgo
      repeat' (first
|(apply X_loadR;eq_refl;exact hI5;exact e6)
|(apply X_loadC;eq_refl;exact hpc)
|(apply WC_seqK;intro K hK)
|(apply hK;clear hK)
|(clear hK;apply hK;clear hK)
|(apply WC_region)
|(apply WL_nil)
|(apply thenQ_normal)
|(apply thenQ_exit)
|(apply blockQ_hit)
|(apply blockQ_normal)
|(apply WC_exit)
|(apply WC_if_false;eq_refl)
|(apply WL_on0;eq_refl)
|(apply X_pv;eq_refl;first|exact trivial|omega)
|(apply X_field;eq_refl)
|(apply X_cmpF;eq_refl;eq_refl;omega)
|(apply X_lenS;eq_refl)
|(apply X_indexP;eq_refl;eq_refl;omega;omega))
      exact ⟨i + 1, ⟨rfl, rfl, trivial⟩, ⟨hC5, hI5, hlt, hgo⟩, by omega⟩
  · rw [List.drop_eq_nil_of_le hge] at hgo
    rw [← hgo, if_neg (by simp [goCom])] at hl1
    repeat' (first
|(apply WC_seqK;intro K hK)
|(apply hK;clear hK)
|(clear hK;apply hK;clear hK)
|(apply WC_region)
|(apply WL_nil)
|(apply thenQ_normal)
|(apply thenQ_exit)
|(apply blockQ_hit)
|(apply WC_ret)
|(apply WC_exit)
|(apply WC_if_false;eq_refl)
|(apply ret2;eq_refl;eq_refl)
|(apply WL_on0;eq_refl)
|(apply X_pv;eq_refl;first|exact trivial|omega)
|(apply X_field;eq_refl)
|(apply X_loadR;eq_refl;(first|assumption|(apply Blk.alloc;assumption)|apply Blk.new|apply Blk.newA|(apply Blk.alloc;first|apply Blk.newA|(apply Blk.alloc;first|assumption|apply Blk.newA)));eq_refl)
|(apply X_cmpF;eq_refl;eq_refl;omega)
|(apply X_len;eq_refl))
    exact ⟨by rw [hl1], hC5⟩
theorem orderRef_cv {w : World} {c : Circ} {h js : Hd} (H : CirAt w c h js) (hs : c.Sane) (ho : c.Okay) (hf : c.Fits) : CV Tryz.prog 32 [.agg (ccells c h).toArray] w fun v w' => Chg w w' none_ ∧
    (((lookM c).2 ≠ 0 ∧ v = .tuple #[.slice none 0 0, nu (lookM c).2]) ∨ ((lookM c).2 = 0 ∧ ∃ out u, v = .tuple #[u, nu 0] ∧ All c.ands.length (gateB (tabM c) c) out ∧ w'.ownsRow w.heap.size 3 1 u out.length (out.map nu))) := by
  have hI0 : Blk (w.alloc (.cells (ccells c h).toArray 29)) w.heap.size 29 (ccells c h) := Blk.new w _ _
  have hC := Chg.alloc w (.cells (ccells c h).toArray 29) none_
  have hck := checkRef_cv (H.chg hC) hs ho hf
  refine enter 16 [2, 3] Tryz.func32 rfl rfl rfl (by decide) rfl ?_
  by_cases he : (lookM c).2 = 0
  · obtain ⟨hle, hsz, hd, hu, _⟩ := lookM_ok he
    obtain ⟨hm0, hm1, hln, hsum⟩ := sizesM_ok hsz
    have hTO : TabOk c (tabM c) := definesM_spec hm0 hd
    have hUA := usesM_spec.1 hu
    have hna : c.ands.length ≤ 16384 := by have := hln (c.ands.length : Int) (by simp [Circ.lens]); omega
    rw [he] at hck
    have htd := fun (W : World) (hW : Chg w W none_) => told_cv (H.chg hW) hTO hUA ⟨hm0, hm1⟩ hna
    repeat' (first
|(apply X_fn;eq_refl;exact hck;rintro _ w1 ⟨rfl, hC1⟩;have hI1 := hI0.chg hC1 id;have hC1' := hC.trans hC1 fun _ _ h => h)
|(apply X_fn;eq_refl;exact htd _ hC1';rintro v2 w2 ⟨hC2, out, hall, hrow⟩)
|(apply WC_seqK;intro K hK)
|(apply hK;clear hK)
|(apply WC_region)
|(apply WL_nil)
|(apply thenQ_normal)
|(apply WC_ret)
|(apply WC_skip)
|(apply WC_if_false;eq_refl)
|(apply ret2;eq_refl;eq_refl)
|(apply WL_on0;eq_refl)
|(apply X_pv;eq_refl;first|exact trivial|omega)
|(apply X_loadW;eq_refl;(first|assumption|(apply Blk.alloc;assumption)|apply Blk.new|apply Blk.newA|(apply Blk.alloc;first|apply Blk.newA|(apply Blk.alloc;first|assumption|apply Blk.newA)));eq_refl)
|(apply X_cmpF;eq_refl;eq_refl;omega)
|(apply X_box;eq_refl))
    have hs1 := hC1'.size
    exact ⟨hC1'.trans hC2 fun _ _ h => h, .inr ⟨he, out, v2, rfl, hall, own_mono hrow hs1⟩⟩
  · repeat' (first
|(apply X_fn;eq_refl;exact hck;rintro _ w1 ⟨rfl, hC1⟩;have hI1 := hI0.chg hC1 id;have hC1' := hC.trans hC1 fun _ _ h => h)
|(apply WC_seqK;intro K hK)
|(apply hK;clear hK)
|(apply WC_region)
|(apply WL_nil)
|(apply thenQ_normal)
|(apply thenQ_ret)
|(apply WC_ret)
|(apply WC_if_true;eq_refl)
|(apply ret2;eq_refl;eq_refl)
|(apply WL_on0;eq_refl)
|(apply X_pv;eq_refl;first|exact trivial|omega)
|(apply X_loadW;eq_refl;(first|assumption|(apply Blk.alloc;assumption)|apply Blk.new|apply Blk.newA|(apply Blk.alloc;first|apply Blk.newA|(apply Blk.alloc;first|assumption|apply Blk.newA)));eq_refl)
|(apply X_cmpT;eq_refl;eq_refl;omega)
|(apply X_box;eq_refl))
    exact ⟨hC1', .inl ⟨he, rfl⟩⟩
end SC
end Go.Proofs.YtbmngkdnebklpaaGreat
end
section
/- The order of a right circuit; trestleref07: Next0, Starts0, Values0. -/
set_option linter.unusedVariables false
set_option linter.unusedSimpArgs false
namespace Go.Proofs.YtbmngkdnebklpaaGreat
namespace SC
open Go.Proofs
theorem ownsRow_low {w : World} {base : Nat} {t : TypeId} {sz n : Nat} {v : Value} {xs : List Value} (h : w.ownsRow base t sz v n xs) : w.ownsRow 0 t sz v n xs := ⟨h.1, h.2.imp id fun ⟨g, cap, cur, h1, _, h2⟩ => ⟨g, cap, cur, h1, Nat.zero_le _, h2⟩⟩
/-- A new row of its own, as an entry. -/
theorem own_vec {α : Type} {enc : α → List Value} {sz : Nat} {w w' : World} {t : TypeId} {u : Value} {l : List α} (h : w'.ownsRow w.heap.size t sz u l.length (l.flatMap enc)) (hc : Chg w w' none_) : ∃ A k, u = .slice A l.length k ∧ Mem w' ([.vec enc sz t A k l] ++ [.old w none_]) := by
  obtain ⟨A, k, rfl⟩ := row_form' h
  refine ⟨A, k, rfl, Mem.join (.one (ownsRow_low h)) (.one hc) fun j ⟨E, hE, h1⟩ ⟨F, hF, h2⟩ => ?_⟩
  simp only [List.mem_singleton] at hE hF
  subst hE hF
  have := (World.ownsRow.lt h j h1).1
  have := h2.1
  omega
/-- The order of its gates. -/
noncomputable def ordM (c : Circ) : List Int := by classical exact if h : ∃ out, All c.ands.length (gateB (tabM c) c) out then h.choose else []
theorem ordM_eq {c : Circ} {out : List Int} (h : All c.ands.length (gateB (tabM c) c) out) : ordM c = out := by
  have hex : ∃ out, All c.ands.length (gateB (tabM c) c) out := ⟨out, h⟩
  unfold ordM
  rw [dif_pos hex]
  exact All.only hex.choose_spec h
/-- What Order answers. -/
def OrdR (c : Circ) (v : Value) (N : Mm) : Prop :=
  ((lookM c).2 ≠ 0 ∧ v = .tuple #[.slice none 0 0, nu (lookM c).2] ∧ N = []) ∨ ((lookM c).2 = 0 ∧ ∃ A k, v = .tuple #[.slice A (ordM c).length k, nu 0] ∧ N = [.vec icell 1 3 A k (ordM c)])
theorem OrderG {w : World} {c : Circ} {h js : Hd} (H : CirAt w c h js) (hs : c.Sane) : CVN Tryz.prog 73 [.agg (ccells c h).toArray] w (OrdR c) := CV.mono (Order_cv H hs) fun v w' ⟨hc, hv⟩ => by
  rcases hv with ⟨h1, rfl⟩ | ⟨h1, out, u, rfl, h2, h3, h4⟩
  · exact ⟨[], .one hc, .inl ⟨h1, rfl, rfl⟩⟩
  · rw [← flat_icell] at h4
    obtain ⟨A, k, rfl, M⟩ := own_vec h4 hc
    rw [← ordM_eq h2] at M ⊢
    exact ⟨_, M, .inr ⟨h1, A, k, rfl, rfl⟩⟩
theorem OrderRefG {w : World} {c : Circ} {h js : Hd} (H : CirAt w c h js) (hs : c.Sane) (ho : c.Okay) (hf : c.Fits) : CVN Tryz.prog 32 [.agg (ccells c h).toArray] w (OrdR c) := CV.mono (orderRef_cv H hs ho hf) fun v w' ⟨hc, hv⟩ => by
  rcases hv with ⟨h1, rfl⟩ | ⟨h1, out, u, rfl, h2, h4⟩
  · exact ⟨[], .one hc, .inl ⟨h1, rfl, rfl⟩⟩
  · rw [← flat_icell] at h4
    obtain ⟨A, k, rfl, M⟩ := own_vec h4 hc
    rw [← ordM_eq h2] at M ⊢
    exact ⟨_, M, .inr ⟨h1, A, k, rfl, rfl⟩⟩
/-! ### a row that is filled from the left -/
def fillL {α β : Type} (f : α → β) (l : List α) (z : β) (i : Nat) : List β := (l.take i).map f ++ List.replicate (l.length - i) z
theorem fillL_len {α β : Type} {f : α → β} {l : List α} {z : β} {i : Nat} (h : i ≤ l.length) : (fillL f l z i).length = l.length := by unfold fillL; simp; omega
theorem fillL_0 {α β : Type} {f : α → β} {l : List α} {z : β} : fillL f l z 0 = List.replicate l.length z := by unfold fillL; simp
theorem fillL_all {α β : Type} {f : α → β} {l : List α} {z : β} {i : Nat} (h : l.length ≤ i) : fillL f l z i = l.map f := by unfold fillL; rw [List.take_of_length_le h, show l.length - i = 0 by omega]; simp
theorem fillL_set {α β : Type} [Inhabited α] {f : α → β} {l : List α} {z : β} {i : Nat} (h : i < l.length) : (fillL f l z i).set (i : Int).toNat (f (gt l (i : Int))) = fillL f l z (i + 1) := by
  unfold fillL
  rw [gt_nat h, Int.toNat_natCast, List.set_append_right _ _ (by simp; omega)]
  have e1 : i - ((l.take i).map f).length = 0 := by simp; omega
  have e2 : l.length - i = (l.length - (i + 1)) + 1 := by omega
  rw [e1, e2, List.replicate_succ, List.set_cons_zero, List.take_succ_eq_append_getElem h, List.map_append]
  simp
/-- Next, by the values. -/
def nxtM (c : Circ) (v : List Bool) : List Bool := c.latches.map fun x => lv v x.2.1
attribute [local irreducible] WC WL WX WS WO OX Does DoesU Enters CV Pure thenQ blockQ retQ Wants retQC GC GL GS GX RdB thenG blockG retG Rd At gt CVN CVM
set_option maxRecDepth 100000
theorem Next0_cv {w : World} {c : Circ} {h js : Hd} {A : Option Addr} {k : Nat} {v : List Bool} (H : CirAt w c h js) (hA : RowA w booc 1 A v) (hn : c.latches.length ≤ 16384) (hl : ∀ x ∈ c.latches, hasL v x.2.1) :
    CVN Tryz.prog 81 [.agg (ccells c h).toArray, .slice A v.length k] w fun r N => ∃ A' k', r = .slice A' (nxtM c v).length k' ∧ N = [.vec booc 1 4 A' k' (nxtM c v)] := by
  have hLat := H.latches
  refine CVN.enter 30 [4] Tryz.func81 rfl rfl rfl (by decide) rfl ?_
  repeat' (first
|(apply GC_seqK;intro K hK)
|(apply hK;clear hK K)
|(apply GC_block)
|(apply GC_region)
|(apply GL_nil)
|(apply thenG_normal)
|(apply GL_on;eq_refl;eq_refl)
|(apply G_pv;eq_refl;first|exact trivial|omega)
|(apply G_field;eq_refl)
|(apply G_ld;eq_refl;(repeat first|exact In.here|apply In.there|apply In.skip);eq_refl)
|(apply G_len;eq_refl)
|(apply G_box;eq_refl;eq_refl;intro _)
|(apply G_make booc;eq_refl;eq_refl;eq_refl;omega;decide;intro _))
  rename_i b0 b1
  refine GC_loopK [1, 2, 5] (fun s : Nat × List Bool => [(6, nu s.1)]) (fun s => [.vec booc 1 4 (some ⟨b1, 0, none⟩) c.latches.length s.2, .box b0 29 (ccells c h), .old w none_]) (fun s => s.1 ≤ c.latches.length ∧ s.2 = fillL (fun x => lv v x.2.1) c.latches false s.1) (fun s => c.latches.length - s.1) (0, List.replicate c.latches.length false) (by repeat first | exact Pick.nil | (apply Pick.cons; eq_refl)) (by repeat first | exact trivial | refine ⟨rfl, ?_⟩) (by repeat first | exact Wk.nil | exact Wk.refl | (apply Wk.cons; (focus ((repeat first | exact Rem.here | apply Rem.there | apply Rem.skip); done))) | apply Wk.nilv | apply Wk.last | apply Wk.drop) ⟨Nat.zero_le _, fillL_0.symm⟩ ?_
  rintro ⟨i, out⟩ ⟨hi, hout⟩
  dsimp only at hi hout ⊢
  have hlen : out.length = c.latches.length := by rw [hout, fillL_len hi]
  rcases Nat.lt_or_ge i c.latches.length with hlt | hge
  · have hL := hl _ (gt_mem (l := c.latches) (i := (i : Int)) (by omega) (by omega))
    have hst := fillL_set (f := fun x : Tri => lv v x.2.1) (z := false) hlt
    rw [← hout] at hst
    have hlit : ∀ w', Mem w' _ → CVN Tryz.prog 57 _ w' _ := fun w' (M : Mem w' [.vec booc 1 4 (some ⟨b1, 0, none⟩) c.latches.length out, .box b0 29 (ccells c h), .old w none_]) => Lit_cv (c := k) (hA.chg (M.ok (.old w none_) (by simp))) hL
    repeat' (first
|(apply G_call;eq_refl;eq_refl;exact hlit;rintro _ _ ⟨rfl, rfl⟩)
|(apply GC_seqK;intro K hK)
|(apply hK;clear hK K)
|(apply GC_block)
|(apply GC_region)
|(apply GL_nil)
|(apply thenG_normal)
|(apply blockG_normal)
|(apply GC_skip)
|(apply GC_if_true;eq_refl)
|(apply GL_on;eq_refl;eq_refl)
|(apply G_pv;eq_refl;first|exact trivial|omega)
|(apply G_field;eq_refl)
|(apply G_fieldP;eq_refl)
|(apply G_ld;eq_refl;(repeat first|exact In.here|apply In.there|apply In.skip);eq_refl)
|(apply G_rdF;eq_refl;(first|(apply Rd.own;(repeat first|exact In.here|apply In.there|apply In.skip);infer_instance)|(apply Rd.old;(repeat first|exact In.here|apply In.there|apply In.skip);assumption)|(apply Rd.oldR;(repeat first|exact In.here|apply In.there|apply In.skip);assumption)|exact Rd.nil|assumption);(case ih => infer_instance);omega;omega;eq_refl)
|(apply G_cmpT;eq_refl;eq_refl;omega)
|(apply G_len;eq_refl)
|(apply G_ix;eq_refl;eq_refl;(first|(apply Rd.own;(repeat first|exact In.here|apply In.there|apply In.skip);infer_instance)|(apply Rd.old;(repeat first|exact In.here|apply In.there|apply In.skip);assumption)|(apply Rd.oldR;(repeat first|exact In.here|apply In.there|apply In.skip);assumption)|exact Rd.nil|assumption);(first|eq_refl|omega);omega;omega)
|(apply G_stV;(first|exact wr_p|kernel_rfl);eq_refl;eq_refl;eq_refl;eq_refl;(repeat first|exact Upd.here|apply Upd.there|apply Upd.skip);infer_instance;infer_instance;eq_refl;omega;(try simp only [List.length_set, List.length_append, List.length_replicate]);omega))
    exact ⟨(i + 1, _), (by repeat first | exact trivial | refine ⟨rfl, ?_⟩), (by repeat first | exact Wk.nil | exact Wk.refl | (apply Wk.cons; (focus ((repeat first | exact Rem.here | apply Rem.there | apply Rem.skip); done))) | apply Wk.nilv | apply Wk.last | apply Wk.drop), ⟨hlt, hst⟩, by simp only; omega⟩
  · rw [fillL_all hge] at hout
    repeat' (first
|(apply GC_seqK;intro K hK)
|(apply hK;clear hK K)
|(clear hK K;apply hK;clear hK K)
|(apply GC_region)
|(apply GL_nil)
|(apply thenG_normal)
|(apply thenG_exit)
|(apply blockG_hit)
|(apply GC_ret)
|(apply GC_exit)
|(apply GC_if_false;eq_refl)
|(apply retG1;eq_refl)
|(apply GL_on;eq_refl;eq_refl)
|(apply G_pv;eq_refl;first|exact trivial|omega)
|(apply G_field;eq_refl)
|(apply G_ld;eq_refl;(repeat first|exact In.here|apply In.there|apply In.skip);eq_refl)
|(apply G_cmpF;eq_refl;eq_refl;omega)
|(apply G_len;eq_refl))
    have e1 : c.latches.length = (nxtM c v).length := by unfold nxtM; simp
    refine ⟨[.vec booc 1 4 (some ⟨b1, 0, none⟩) c.latches.length out], (by repeat first | exact Wk.nil | exact Wk.refl | (apply Wk.cons; (focus ((repeat first | exact Rem.here | apply Rem.there | apply Rem.skip); done))) | apply Wk.nilv | apply Wk.last | apply Wk.drop), some ⟨b1, 0, none⟩, c.latches.length, by rw [e1], by rw [hout]; rfl⟩
end SC
end Go.Proofs.YtbmngkdnebklpaaGreat
end
section
/- A right circuit; its values. trestleref07: Starts0, Values0. -/
set_option linter.unusedVariables false
set_option linter.unusedSimpArgs false
namespace Go.Proofs.YtbmngkdnebklpaaGreat
namespace SC
open Go.Proofs
theorem CV.ex {P : Program} {f : FuncId} {args : List Value} {w : World} {R : Value → World → Prop} (h : CV P f args w R) : ∃ v w', R v w' := by
  obtain ⟨e, w', fr, h1, _⟩ := h []
  cases e with
  | returned v => exact ⟨v, w', h1⟩
  | panicked c => exact h1.elim
  | outgrown => exact h1.elim
/-- What is so of a right circuit. -/
structure Right (c : Circ) : Prop where
  tab : TabOk c (tabM c)
  use : UseAll c (tabM c)
  m0 : 0 ≤ c.max
  m1 : c.max ≤ 16384
  lens : ∀ n ∈ c.lens, n ≤ 16384
  sum : sumW c.justice ≤ 16384
  all : All c.ands.length (gateB (tabM c) c) (ordM c)
  ordLen : (ordM c).length = c.ands.length
theorem right_of {w : World} {c : Circ} {h js : Hd} (H : CirAt w c h js) (hs : c.Sane) (he : (lookM c).2 = 0) : Right c := by
  obtain ⟨v, w', _, hv⟩ := CV.ex (Order_cv H hs)
  rcases hv with ⟨h1, _⟩ | ⟨_, out, u, _, h2, h3, _⟩
  · exact absurd he h1
  · obtain ⟨_, g1, g2, g3, _⟩ := lookM_ok he
    obtain ⟨k1, k2, k3, k4⟩ := sizesM_ok g1
    have e1 := ordM_eq h2
    exact ⟨definesM_spec k1 g2, usesM_spec.1 g3, k1, k2, k3, k4, by rw [e1]; exact h2, by rw [e1]; exact h3⟩
def inR (c : Circ) (l : Int) : Prop := 0 ≤ l ∧ l ≤ 2 * c.max + 1
def defR (c : Circ) (l : Int) : Prop := 2 ≤ l ∧ l ≤ 2 * c.max ∧ l % 2 = 0
section
variable {c : Circ} (R : Right c)
include R
theorem Right.nIn : c.inputs.length ≤ 16384 := by have := R.lens c.inputs.length (by simp [Circ.lens]); omega
theorem Right.nLat : c.latches.length ≤ 16384 := by have := R.lens c.latches.length (by simp [Circ.lens]); omega
theorem Right.nAnd : c.ands.length ≤ 16384 := by have := R.lens c.ands.length (by simp [Circ.lens]); omega
theorem Right.nBad : c.bads.length ≤ 16384 := by have := R.lens c.bads.length (by simp [Circ.lens]); omega
theorem Right.nCon : c.constraints.length ≤ 16384 := by have := R.lens c.constraints.length (by simp [Circ.lens]); omega
theorem Right.nFair : c.fairness.length ≤ 16384 := by have := R.lens c.fairness.length (by simp [Circ.lens]); omega
theorem Right.nJust : c.justice.length ≤ 16384 := by have := R.lens c.justice.length (by simp [Circ.lens]); omega
theorem Right.inp {l : Int} (h : l ∈ c.inputs) : defR c l := by
  obtain ⟨j, hj, rfl⟩ := List.mem_iff_getElem.1 h
  have := (R.tab.inp j hj).1
  unfold defBad at this; unfold defR; omega
theorem Right.lat {x : Tri} (h : x ∈ c.latches) : defR c x.1 ∧ inR c x.2.1 ∧ (x.2.2 = 0 ∨ x.2.2 = 1 ∨ x.2.2 = x.1) := by
  obtain ⟨j, hj, rfl⟩ := List.mem_iff_getElem.1 h
  have h1 := (R.tab.lat j hj).1
  have h2 := (R.tab.lat j hj).2.2
  have h3 := R.use.next _ (List.getElem_mem hj)
  unfold defBad at h1; unfold badReset at h2; unfold useOk at h3; unfold defR inR
  omega
theorem Right.gate {x : Tri} (h : x ∈ c.ands) : defR c x.1 ∧ inR c x.2.1 ∧ inR c x.2.2 := by
  obtain ⟨j, hj, rfl⟩ := List.mem_iff_getElem.1 h
  have h1 := (R.tab.gat j hj).1
  have h3 := R.use.ands _ (List.getElem_mem hj)
  unfold defBad at h1; unfold useOk at h3; unfold defR inR
  omega
theorem Right.con {l : Int} (h : l ∈ c.constraints) : inR c l := ⟨(R.use.constraints l h).1, (R.use.constraints l h).2.1⟩
theorem Right.bad {l : Int} (h : l ∈ c.bads) : inR c l := ⟨(R.use.bads l h).1, (R.use.bads l h).2.1⟩
theorem Right.fair {l : Int} (h : l ∈ c.fairness) : inR c l := ⟨(R.use.fairness l h).1, (R.use.fairness l h).2.1⟩
theorem Right.just {ls : List Int} {l : Int} (h : ls ∈ c.justice) (h2 : l ∈ ls) : inR c l := ⟨(R.use.justice ls h l h2).1, (R.use.justice ls h l h2).2.1⟩
theorem Right.ord {i : Int} (h : i ∈ ordM c) : 0 ≤ i ∧ i < c.ands.length := R.all.told.all i h
end
theorem inR.has {c : Circ} {l : Int} {v : List Bool} (h : inR c l) (hm : c.max ≤ 16384) (hv : v.length = (c.max + 1).toNat) : hasL v l := by unfold inR at h; unfold hasL; omega
theorem defR.in {c : Circ} {l : Int} (h : defR c l) : inR c l := by unfold defR at h; unfold inR; omega
/-! ### the values -/
def vIn (c : Circ) (r : List Bool) (i : Nat) : List Bool := (List.range i).foldl (fun v (k : Nat) => v.set (gt c.inputs (k : Int) / 2).toNat (gt r (k : Int))) (List.replicate (c.max + 1).toNat false)
def vLt (c : Circ) (s v : List Bool) (i : Nat) : List Bool := (List.range i).foldl (fun v (k : Nat) => v.set ((gt c.latches (k : Int)).1 / 2).toNat (gt s (k : Int))) v
def vAn (c : Circ) (ord : List Int) (v : List Bool) (i : Nat) : List Bool := (List.range i).foldl (fun v (k : Nat) => v.set ((gt c.ands (gt ord (k : Int))).1 / 2).toNat (lv v (gt c.ands (gt ord (k : Int))).2.1 && lv v (gt c.ands (gt ord (k : Int))).2.2)) v
noncomputable def valM (c : Circ) (s r : List Bool) : List Bool := vAn c (ordM c) (vLt c s (vIn c r c.inputs.length) c.latches.length) (ordM c).length
theorem fold_snoc {α : Type} (f : α → Nat → α) (a : α) (i : Nat) : (List.range (i + 1)).foldl f a = f ((List.range i).foldl f a) i := by rw [List.range_succ, List.foldl_append]; rfl
theorem fold_len (g : List Bool → Nat → Nat) (h : List Bool → Nat → Bool) (v : List Bool) (i : Nat) : ((List.range i).foldl (fun v k => v.set (g v k) (h v k)) v).length = v.length := by
  induction i with
  | zero => simp
  | succ i ih => rw [fold_snoc, List.length_set, ih]
theorem vIn_len (c : Circ) (r : List Bool) (i : Nat) : (vIn c r i).length = (c.max + 1).toNat := by unfold vIn; rw [fold_len]; simp
theorem vLt_len (c : Circ) (s v : List Bool) (i : Nat) : (vLt c s v i).length = v.length := by unfold vLt; rw [fold_len]
theorem vAn_len (c : Circ) (ord : List Int) (v : List Bool) (i : Nat) : (vAn c ord v i).length = v.length := by unfold vAn; rw [fold_len]
theorem valM_len (c : Circ) (s r : List Bool) : (valM c s r).length = (c.max + 1).toNat := by unfold valM; rw [vAn_len, vLt_len, vIn_len]
/-- May the state begin? -/
def okSt (x : Tri) (b : Bool) : Bool := (decide (x.2.2 ≠ 0) || !b) && (decide (x.2.2 ≠ 1) || b)
def startsM (c : Circ) (s : List Bool) (i : Nat) : Bool := (List.range i).all fun (k : Nat) => okSt (gt c.latches (k : Int)) (gt s (k : Int))
theorem startsM_succ (c : Circ) (s : List Bool) (i : Nat) : startsM c s (i + 1) = (startsM c s i && okSt (gt c.latches (i : Int)) (gt s (i : Int))) := by unfold startsM; rw [List.range_succ, List.all_append]; simp
theorem startsM_false {c : Circ} {s : List Bool} {i n : Nat} (h : i < n) (hf : okSt (gt c.latches (i : Int)) (gt s (i : Int)) = false) : startsM c s n = false := by
  unfold startsM
  rw [List.all_eq_false]
  exact ⟨i, by simpa using h, by rw [hf]; decide⟩
attribute [local irreducible] WC WL WX WS WO OX Does DoesU Enters CV Pure thenQ blockQ retQ Wants retQC GC GL GS GX RdB thenG blockG retG Rd At gt CVN CVM
set_option maxRecDepth 100000
end SC
end Go.Proofs.YtbmngkdnebklpaaGreat
end
section
/- trestleref07: Values0. -/
set_option linter.unusedVariables false
set_option linter.unusedSimpArgs false
namespace Go.Proofs.YtbmngkdnebklpaaGreat
namespace SC
open Go.Proofs
theorem vIn_succ (c : Circ) (r : List Bool) (i : Nat) : vIn c r (i + 1) = (vIn c r i).set (gt c.inputs (i : Int) / 2).toNat (gt r (i : Int)) := by unfold vIn; rw [fold_snoc]
theorem vLt_succ (c : Circ) (s v : List Bool) (i : Nat) : vLt c s v (i + 1) = (vLt c s v i).set ((gt c.latches (i : Int)).1 / 2).toNat (gt s (i : Int)) := by unfold vLt; rw [fold_snoc]
theorem vAn_succ (c : Circ) (o : List Int) (v : List Bool) (i : Nat) : vAn c o v (i + 1) = (vAn c o v i).set ((gt c.ands (gt o (i : Int))).1 / 2).toNat (lv (vAn c o v i) (gt c.ands (gt o (i : Int))).2.1 && lv (vAn c o v i) (gt c.ands (gt o (i : Int))).2.2) := by unfold vAn; rw [fold_snoc]
attribute [local irreducible] WC WL WX WS WO OX Does DoesU Enters CV Pure thenQ blockQ retQ Wants retQC GC GL GS GX RdB thenG blockG retG Rd At gt CVN CVM
set_option maxRecDepth 100000
theorem Values0_cv {w : World} {c : Circ} {h js : Hd} {B S T : Option Addr} {k1 k2 k3 : Nat} {s r : List Bool} (R : Right c) (H : CirAt w c h js) (hB : RowA w icell 1 B (ordM c)) (hS : RowA w booc 1 S s) (hT : RowA w booc 1 T r) (hs : s.length = c.latches.length) (hr : r.length = c.inputs.length) :
    CVN Tryz.prog 33 [.agg (ccells c h).toArray, .slice B (ordM c).length k1, .slice S s.length k2, .slice T r.length k3] w fun v N => ∃ A' k', v = .slice A' (valM c s r).length k' ∧ N = [.vec booc 1 4 A' k' (valM c s r)] := by
  have hLat := H.latches
  have hInp := H.inputs
  have hAnd := H.ands
  have m0 := R.m0
  have m1 := R.m1
  have n1 := R.nIn
  have n2 := R.nLat
  have n3 := R.nAnd
  have n4 := R.ordLen
  refine CVN.enter 87 [8] Tryz.func33 rfl rfl rfl (by decide) rfl ?_
  repeat' (first
|(apply GC_seqK;intro K hK)
|(apply hK;clear hK K)
|(apply GC_block)
|(apply GC_region)
|(apply GL_nil)
|(apply thenG_normal)
|(apply GL_on;eq_refl;eq_refl)
|(apply G_pv;eq_refl;first|exact trivial|omega)
|(apply G_field;eq_refl)
|(apply G_ld;eq_refl;(repeat first|exact In.here|apply In.there|apply In.skip);eq_refl)
|(apply G_box;eq_refl;eq_refl;intro _)
|(apply G_makeI booc;eq_refl;eq_refl;omega;eq_refl;omega;decide;intro _))
  rename_i b0 b1
  refine GC_loopK [1, 2, 3, 4, 9] (fun s : Nat × List Bool => [(10, nu s.1)]) (fun s => [.vec booc 1 4 (some ⟨b1, 0, none⟩) (c.max + 1).toNat s.2, .box b0 29 (ccells c h), .old w none_]) (fun s => s.1 ≤ c.inputs.length ∧ s.2 = vIn c r s.1) (fun s => c.inputs.length - s.1) (0, _) (by repeat first | exact Pick.nil | (apply Pick.cons; eq_refl)) (by repeat first | exact trivial | refine ⟨rfl, ?_⟩) (by repeat first | exact Wk.nil | exact Wk.refl | (apply Wk.cons; (focus ((repeat first | exact Rem.here | apply Rem.there | apply Rem.skip); done))) | apply Wk.nilv | apply Wk.last | apply Wk.drop) ⟨Nat.zero_le _, rfl⟩ ?_
  rintro ⟨i, v⟩ ⟨hi, hv⟩
  dsimp only at hi hv ⊢
  have hlen : v.length = (c.max + 1).toNat := by rw [hv, vIn_len]
  rcases Nat.lt_or_ge i c.inputs.length with hlt | hge
  · have hd := R.inp (gt_mem (l := c.inputs) (i := (i : Int)) (by omega) (by omega))
    have hst := vIn_succ c r i
    rw [← hv] at hst
    unfold defR at hd
    repeat' (first
|(apply GC_seqK;intro K hK)
|(apply hK;clear hK K)
|(apply GC_block)
|(apply GC_region)
|(apply GL_nil)
|(apply thenG_normal)
|(apply blockG_normal)
|(apply GC_skip)
|(apply GC_if_true;eq_refl)
|(apply GL_on;eq_refl;eq_refl)
|(refine GC_draws (id := 5) [.q 0, .q 1, .q 2, .q 3, .q 4, .q 5, .q 6, .q 7, .q 8, .q 9, .q 10, .q 11, .c 12] mixed (by kernel_rfl) (by kernel_rfl) ?_)
|(apply GS_nil)
|(apply GS_qon;eq_refl;eq_refl;eq_refl;eq_refl)
|(apply GS_con;eq_refl;eq_refl;eq_refl;eq_refl)
|(apply G_pv;eq_refl;first|exact trivial|omega)
|(apply G_field;eq_refl)
|(apply G_ld;eq_refl;(repeat first|exact In.here|apply In.there|apply In.skip);eq_refl)
|(apply G_rd;eq_refl;(first|(apply Rd.own;(repeat first|exact In.here|apply In.there|apply In.skip);infer_instance)|(apply Rd.old;(repeat first|exact In.here|apply In.there|apply In.skip);assumption)|(apply Rd.oldR;(repeat first|exact In.here|apply In.there|apply In.skip);assumption)|exact Rd.nil|assumption);(case ih => infer_instance);omega;omega;eq_refl)
|(apply G_cmpT;eq_refl;eq_refl;omega)
|(apply G_len;eq_refl)
|(apply G_ix;eq_refl;eq_refl;(first|(apply Rd.own;(repeat first|exact In.here|apply In.there|apply In.skip);infer_instance)|(apply Rd.old;(repeat first|exact In.here|apply In.there|apply In.skip);assumption)|(apply Rd.oldR;(repeat first|exact In.here|apply In.there|apply In.skip);assumption)|exact Rd.nil|assumption);(first|eq_refl|omega);omega;omega)
|(apply G_stV;(first|exact wr_p|kernel_rfl);eq_refl;eq_refl;eq_refl;eq_refl;(repeat first|exact Upd.here|apply Upd.there|apply Upd.skip);infer_instance;infer_instance;eq_refl;omega;(try simp only [List.length_set, List.length_append, List.length_replicate]);omega))
    exact ⟨(i + 1, _), (by repeat first | exact trivial | refine ⟨rfl, ?_⟩), (by repeat first | exact Wk.nil | exact Wk.refl | (apply Wk.cons; (focus ((repeat first | exact Rem.here | apply Rem.there | apply Rem.skip); done))) | apply Wk.nilv | apply Wk.last | apply Wk.drop), ⟨hlt, hst.symm⟩, by simp only; omega⟩
  · obtain rfl : i = c.inputs.length := by omega
    repeat' (first
|(apply GC_seqK;intro K hK)
|(apply hK;clear hK K)
|(clear hK K;apply hK;clear hK K)
|(apply GC_block)
|(apply GC_region)
|(apply GL_nil)
|(apply thenG_normal)
|(apply thenG_exit)
|(apply blockG_hit)
|(apply GC_exit)
|(apply GC_if_false;eq_refl)
|(apply GL_on;eq_refl;eq_refl)
|(apply G_pv;eq_refl;first|exact trivial|omega)
|(apply G_field;eq_refl)
|(apply G_ld;eq_refl;(repeat first|exact In.here|apply In.there|apply In.skip);eq_refl)
|(apply G_cmpF;eq_refl;eq_refl;omega)
|(apply G_len;eq_refl))
    refine GC_loopK [1, 2, 3, 4, 9] (fun s : Nat × List Bool => [(11, nu s.1)]) (fun s => [.vec booc 1 4 (some ⟨b1, 0, none⟩) (c.max + 1).toNat s.2, .box b0 29 (ccells c h), .old w none_]) (fun t => t.1 ≤ c.latches.length ∧ t.2 = vLt c s v t.1) (fun s => c.latches.length - s.1) (0, _) (by repeat first | exact Pick.nil | (apply Pick.cons; eq_refl)) (by repeat first | exact trivial | refine ⟨rfl, ?_⟩) (by repeat first | exact Wk.nil | exact Wk.refl | (apply Wk.cons; (focus ((repeat first | exact Rem.here | apply Rem.there | apply Rem.skip); done))) | apply Wk.nilv | apply Wk.last | apply Wk.drop) ⟨Nat.zero_le _, rfl⟩ ?_
    rintro ⟨i, v2⟩ ⟨hi2, hv2⟩
    dsimp only at hi2 hv2 ⊢
    have hlen2 : v2.length = (c.max + 1).toNat := by rw [hv2, vLt_len, hlen]
    rcases Nat.lt_or_ge i c.latches.length with hlt | hge
    · have hd := (R.lat (gt_mem (l := c.latches) (i := (i : Int)) (by omega) (by omega))).1
      have hst := vLt_succ c s v i
      rw [← hv2] at hst
      unfold defR at hd
      repeat' (first
|(apply GC_seqK;intro K hK)
|(apply hK;clear hK K)
|(apply GC_block)
|(apply GC_region)
|(apply GL_nil)
|(apply thenG_normal)
|(apply blockG_normal)
|(apply GC_skip)
|(apply GC_if_true;eq_refl)
|(apply GL_on;eq_refl;eq_refl)
|(refine GC_draws (id := 9) [.q 0, .q 1, .q 2, .q 3, .q 4, .q 5, .q 6, .q 7, .q 8, .q 9, .q 10, .q 11, .q 12, .c 13] mixed (by kernel_rfl) (by kernel_rfl) ?_)
|(apply GS_nil)
|(apply GS_qon;eq_refl;eq_refl;eq_refl;eq_refl)
|(apply GS_con;eq_refl;eq_refl;eq_refl;eq_refl)
|(apply G_pv;eq_refl;first|exact trivial|omega)
|(apply G_field;eq_refl)
|(apply G_fieldP;eq_refl)
|(apply G_ld;eq_refl;(repeat first|exact In.here|apply In.there|apply In.skip);eq_refl)
|(apply G_rd;eq_refl;(first|(apply Rd.own;(repeat first|exact In.here|apply In.there|apply In.skip);infer_instance)|(apply Rd.old;(repeat first|exact In.here|apply In.there|apply In.skip);assumption)|(apply Rd.oldR;(repeat first|exact In.here|apply In.there|apply In.skip);assumption)|exact Rd.nil|assumption);(case ih => infer_instance);omega;omega;eq_refl)
|(apply G_cmpT;eq_refl;eq_refl;omega)
|(apply G_len;eq_refl)
|(apply G_ix;eq_refl;eq_refl;(first|(apply Rd.own;(repeat first|exact In.here|apply In.there|apply In.skip);infer_instance)|(apply Rd.old;(repeat first|exact In.here|apply In.there|apply In.skip);assumption)|(apply Rd.oldR;(repeat first|exact In.here|apply In.there|apply In.skip);assumption)|exact Rd.nil|assumption);(first|eq_refl|omega);omega;omega)
|(apply G_stV;(first|exact wr_p|kernel_rfl);eq_refl;eq_refl;eq_refl;eq_refl;(repeat first|exact Upd.here|apply Upd.there|apply Upd.skip);infer_instance;infer_instance;eq_refl;omega;(try simp only [List.length_set, List.length_append, List.length_replicate]);omega))
      exact ⟨(i + 1, _), (by repeat first | exact trivial | refine ⟨rfl, ?_⟩), (by repeat first | exact Wk.nil | exact Wk.refl | (apply Wk.cons; (focus ((repeat first | exact Rem.here | apply Rem.there | apply Rem.skip); done))) | apply Wk.nilv | apply Wk.last | apply Wk.drop), ⟨hlt, hst.symm⟩, by simp only; omega⟩
    · obtain rfl : i = c.latches.length := by omega
      repeat' (first
|(apply GC_seqK;intro K hK)
|(apply hK;clear hK K)
|(clear hK K;apply hK;clear hK K)
|(apply GC_block)
|(apply GC_region)
|(apply GL_nil)
|(apply thenG_normal)
|(apply thenG_exit)
|(apply blockG_hit)
|(apply GC_exit)
|(apply GC_if_false;eq_refl)
|(apply GL_on;eq_refl;eq_refl)
|(apply G_pv;eq_refl;first|exact trivial|omega)
|(apply G_field;eq_refl)
|(apply G_ld;eq_refl;(repeat first|exact In.here|apply In.there|apply In.skip);eq_refl)
|(apply G_cmpF;eq_refl;eq_refl;omega)
|(apply G_len;eq_refl))
      refine GC_loopK [1, 2, 3, 4, 9] (fun s : Nat × List Bool => [(12, nu s.1)]) (fun s => [.vec booc 1 4 (some ⟨b1, 0, none⟩) (c.max + 1).toNat s.2, .box b0 29 (ccells c h), .old w none_]) (fun t => t.1 ≤ (ordM c).length ∧ t.2 = vAn c (ordM c) v2 t.1) (fun s => (ordM c).length - s.1) (0, _) (by repeat first | exact Pick.nil | (apply Pick.cons; eq_refl)) (by repeat first | exact trivial | refine ⟨rfl, ?_⟩) (by repeat first | exact Wk.nil | exact Wk.refl | (apply Wk.cons; (focus ((repeat first | exact Rem.here | apply Rem.there | apply Rem.skip); done))) | apply Wk.nilv | apply Wk.last | apply Wk.drop) ⟨Nat.zero_le _, rfl⟩ ?_
      rintro ⟨i, v3⟩ ⟨hi3, hv3⟩
      dsimp only at hi3 hv3 ⊢
      have hlen3 : v3.length = (c.max + 1).toNat := by rw [hv3, vAn_len, hlen2]
      rcases Nat.lt_or_ge i (ordM c).length with hlt | hge
      · have ho := R.ord (gt_mem (l := ordM c) (i := (i : Int)) (by omega) (by omega))
        have hst := vAn_succ c (ordM c) v2 i
        rw [← hv3] at hst
        obtain ⟨hd, hl1, hl2⟩ := R.gate (gt_mem (l := c.ands) ho.1 ho.2)
        have hl1' := hl1.has m1 hlen3
        have hl2' := hl2.has m1 hlen3
        unfold defR at hd
        have hlit : ∀ Γ, In Γ (.vec booc 1 4 (some ⟨b1, 0, none⟩) (c.max + 1).toNat v3) → ∀ l, hasL v3 l → ∀ w', Mem w' Γ → CVN Tryz.prog 57 [.slice (some ⟨b1, 0, none⟩) (c.max + 1).toNat (c.max + 1).toNat, nu l] w' fun r N => N = [] ∧ r = .bool (lv v3 l) := fun Γ hi l hl w' M => Lit_cvK ((Rd.own hi inferInstance).at M) hlen3.symm hl
        cases hx : lv v3 (gt c.ands (gt (ordM c) (i : Int))).2.1
        all_goals
          rw [hx] at hst
          repeat' (first
|(apply G_call;eq_refl;eq_refl;(apply hlit;(repeat first|exact In.here|apply In.there|apply In.skip);assumption);(first|rw [hx]|skip);rintro _ _ ⟨rfl, rfl⟩)
|(apply GC_seqK;intro K hK)
|(apply hK;clear hK K)
|(apply GC_block)
|(apply GC_region)
|(apply GL_nil)
|(apply thenG_normal)
|(apply blockG_normal)
|(apply GC_skip)
|(apply GC_if_true;eq_refl)
|(apply GL_on;eq_refl;eq_refl)
|(refine GC_draws (id := 13) [.q 0, .q 1, .q 2, .q 3, .q 4, .q 5, .q 6, .q 7, .c 8, .c 9] mixed (by kernel_rfl) (by kernel_rfl) ?_)
|(refine GC_draws (id := 14) [.q 0, .q 1, .q 2, .q 3, .q 4, .q 5, .q 6, .c 7, .q 8, .q 9, .q 10, .q 11, .c 12, .q 13, .q 14, .c 15] mixed (by kernel_rfl) (by kernel_rfl) ?_)
|(apply GS_nil)
|(apply GS_qon;eq_refl;eq_refl;eq_refl;eq_refl)
|(apply GS_qoff;eq_refl;eq_refl;eq_refl;eq_refl)
|(apply GS_con;eq_refl;eq_refl;eq_refl;eq_refl)
|(apply GS_coff;eq_refl;eq_refl;eq_refl;eq_refl)
|(apply G_pv;eq_refl;first|exact trivial|omega)
|(apply G_field;eq_refl)
|(apply G_ld;eq_refl;(repeat first|exact In.here|apply In.there|apply In.skip);eq_refl)
|(apply G_rd;eq_refl;(first|(apply Rd.own;(repeat first|exact In.here|apply In.there|apply In.skip);infer_instance)|(apply Rd.old;(repeat first|exact In.here|apply In.there|apply In.skip);assumption)|(apply Rd.oldR;(repeat first|exact In.here|apply In.there|apply In.skip);assumption)|exact Rd.nil|assumption);(case ih => infer_instance);omega;omega;eq_refl)
|(apply G_rdW;eq_refl;(first|(apply Rd.own;(repeat first|exact In.here|apply In.there|apply In.skip);infer_instance)|(apply Rd.old;(repeat first|exact In.here|apply In.there|apply In.skip);assumption)|(apply Rd.oldR;(repeat first|exact In.here|apply In.there|apply In.skip);assumption)|exact Rd.nil|assumption);infer_instance;(case ih => infer_instance);omega;omega)
|(apply G_cmpT;eq_refl;eq_refl;omega)
|(apply G_len;eq_refl)
|(apply G_ix;eq_refl;eq_refl;(first|(apply Rd.own;(repeat first|exact In.here|apply In.there|apply In.skip);infer_instance)|(apply Rd.old;(repeat first|exact In.here|apply In.there|apply In.skip);assumption)|(apply Rd.oldR;(repeat first|exact In.here|apply In.there|apply In.skip);assumption)|exact Rd.nil|assumption);(first|eq_refl|omega);omega;omega)
|(apply G_alloc;eq_refl;intro _)
|(apply G_stV;(first|exact wr_p|kernel_rfl);eq_refl;eq_refl;eq_refl;eq_refl;(repeat first|exact Upd.here|apply Upd.there|apply Upd.skip);infer_instance;infer_instance;eq_refl;omega;(try simp only [List.length_set, List.length_append, List.length_replicate]);omega)
|(apply G_stW;(first|exact wr_p|kernel_rfl);eq_refl;eq_refl;eq_refl;eq_refl;(repeat first|exact Upd.here|apply Upd.there|apply Upd.skip);eq_refl))
        all_goals exact ⟨(i + 1, _), (by repeat first | exact trivial | refine ⟨rfl, ?_⟩), (by repeat first | exact Wk.nil | exact Wk.refl | (apply Wk.cons; (focus ((repeat first | exact Rem.here | apply Rem.there | apply Rem.skip); done))) | apply Wk.nilv | apply Wk.last | apply Wk.drop), ⟨hlt, hst.symm⟩, by simp only; omega⟩
      · obtain rfl : i = (ordM c).length := by omega
        repeat' (first
|(apply GC_seqK;intro K hK)
|(apply hK;clear hK K)
|(clear hK K;apply hK;clear hK K)
|(apply GC_region)
|(apply GL_nil)
|(apply thenG_normal)
|(apply thenG_exit)
|(apply blockG_hit)
|(apply GC_ret)
|(apply GC_exit)
|(apply GC_if_false;eq_refl)
|(apply retG1;eq_refl)
|(apply GL_on;eq_refl;eq_refl)
|(apply G_pv;eq_refl;first|exact trivial|omega)
|(apply G_cmpF;eq_refl;eq_refl;omega)
|(apply G_len;eq_refl))
        subst hv3 hv2 hv
        refine ⟨[_], (by repeat first | exact Wk.nil | exact Wk.refl | (apply Wk.cons; (focus ((repeat first | exact Rem.here | apply Rem.there | apply Rem.skip); done))) | apply Wk.nilv | apply Wk.last | apply Wk.drop), _, _, by rw [valM_len], rfl⟩
end SC
end Go.Proofs.YtbmngkdnebklpaaGreat
end
section
/- trestleref07: looked, Values, Next, Holds, Starts. -/
set_option linter.unusedVariables false
set_option linter.unusedSimpArgs false
namespace Go.Proofs.YtbmngkdnebklpaaGreat
namespace SC
open Go.Proofs
/-- A circuit that can be read, and what is so of any. -/
structure CirIn (w : World) (c : Circ) (h js : Hd) : Prop where
  at_ : CirAt w c h js
  sane : c.Sane
  okay : c.Okay
  fits : c.Fits
theorem CirIn.chg {w w' : World} {c : Circ} {h js : Hd} (H : CirIn w c h js) (hc : Chg w w' none_) : CirIn w' c h js := ⟨H.at_.chg hc, H.sane, H.okay, H.fits⟩
theorem In.old {Γ : Mm} {w w0 : World} (h : In Γ (.old w0 none_)) (M : Mem w Γ) : Chg w0 w none_ := h.ok M
/-- What is wrong with a step. -/
noncomputable def stepE (c : Circ) (s r : List Bool) : Int := if (lookM c).2 ≠ 0 then (lookM c).2 else if s.length ≠ c.latches.length ∨ r.length ≠ c.inputs.length then 4 else 0
theorem stepE_look {c : Circ} {s r : List Bool} (h : (lookM c).2 ≠ 0) : stepE c s r = (lookM c).2 := if_pos h
theorem stepE_len {c : Circ} {s r : List Bool} (h : (lookM c).2 = 0) (h2 : s.length ≠ c.latches.length ∨ r.length ≠ c.inputs.length) : stepE c s r = 4 := by unfold stepE; rw [if_neg (by omega), if_pos h2]
theorem stepE_ok {c : Circ} {s r : List Bool} (h : (lookM c).2 = 0) (h2 : s.length = c.latches.length) (h3 : r.length = c.inputs.length) : stepE c s r = 0 := by unfold stepE; rw [if_neg (by omega), if_neg (by omega)]
noncomputable def valsM (c : Circ) (s r : List Bool) : List Bool := if stepE c s r = 0 then valM c s r else []
def ValsR (c : Circ) (s r : List Bool) (v : Value) (N : Mm) : Prop := ∃ A k, v = .tuple #[.slice A (valsM c s r).length k, nu (stepE c s r)] ∧ N = [.vec booc 1 4 A k (valsM c s r)]
attribute [local irreducible] WC WL WX WS WO OX Does DoesU Enters CV Pure thenQ blockQ retQ Wants retQC GC GL GS GX RdB thenG blockG retG Rd At gt CVN CVM
set_option maxRecDepth 100000
section
variable {w : World} {c : Circ} {h js : Hd} {S T : Option Addr} {k2 k3 : Nat} {s r : List Bool} (H : CirIn w c h js) (hS : RowA w booc 1 S s) (hT : RowA w booc 1 T r)
include H hS hT
end
/-- Whether a state may begin, and what is wrong. -/
noncomputable def startE (c : Circ) (s : List Bool) : Int := if (lookM c).2 ≠ 0 then (lookM c).2 else if s.length ≠ c.latches.length then 4 else 0
noncomputable def startB (c : Circ) (s : List Bool) : Bool := if startE c s = 0 then startsM c s c.latches.length else false
end SC
end Go.Proofs.YtbmngkdnebklpaaGreat
end
section
/- sim: is, values, next, holds. -/
set_option linter.unusedVariables false
set_option linter.unusedSimpArgs false
namespace Go.Proofs.YtbmngkdnebklpaaGreat
namespace SC
open Go.Proofs
/-- The runner's cells. -/
noncomputable def rcells (c : Circ) (h : Hd) (B : Option Addr) (k : Nat) : List Value := ccells c h ++ [.slice B (ordM c).length k]
theorem In.box {Γ : Mm} {w : World} {b : Nat} {t : TypeId} {cs : List Value} (h : In Γ (.box b t cs)) (M : Mem w Γ) : Blk w b t cs := h.ok M
theorem In.row {Γ : Mm} {w : World} {α : Type} {enc : α → List Value} {sz : Nat} [H : Enc enc sz] {t : TypeId} {A : Option Addr} {c : Nat} {l : List α} (h : In Γ (.vec enc sz t A c l)) (M : Mem w Γ) : RowA w enc sz A l := (Rd.own h H).at M
instance : Fn Tryz.prog 74 := ⟨fun args w => Tryz.call74 args w⟩
instance : Fn Tryz.prog 78 := ⟨fun args w => Tryz.call78 args w⟩
instance : Fn Tryz.prog 87 := ⟨fun args w => Tryz.call87 args w⟩
attribute [local irreducible] WC WL WX WS WO OX Does DoesU Enters CV Pure thenQ blockQ retQ Wants retQC GC GL GS GX RdB thenG blockG retG Rd At gt CVN CVM
set_option maxRecDepth 100000
theorem is_cv {w : World} {A : Option Addr} {c k : Nat} {v : List Bool} {l : Int} (hA : RowA w booc 1 A v) (hk : k = v.length) (hl : hasL v l) : CVN Tryz.prog 77 [.slice A k c, nu l] w fun r N => N = [] ∧ r = .bool (lv v l) := by
  obtain ⟨h0, h1, h2⟩ := hl
  refine CVN.enter 14 [4] Tryz.func77 rfl rfl rfl (by decide) rfl ?_
  repeat' (first
|(apply GC_seqK;intro K hK)
|(apply hK;clear hK K)
|(apply GC_region)
|(apply GL_nil)
|(apply thenG_normal)
|(apply GC_ret)
|(apply retG1;eq_refl)
|(apply GL_on;eq_refl;eq_refl)
|(apply G_pv;eq_refl;first|exact trivial|omega)
|(apply G_rd;eq_refl;(first|(apply Rd.own;(repeat first|exact In.here|apply In.there|apply In.skip);infer_instance)|(apply Rd.old;(repeat first|exact In.here|apply In.there|apply In.skip);assumption)|(apply Rd.oldR;(repeat first|exact In.here|apply In.there|apply In.skip);assumption)|exact Rd.nil|assumption);(case ih => infer_instance);omega;omega;eq_refl)
|(apply G_cmpD;eq_refl;eq_refl;(case hd => infer_instance))
|(apply G_ix;eq_refl;eq_refl;(first|(apply Rd.own;(repeat first|exact In.here|apply In.there|apply In.skip);infer_instance)|(apply Rd.old;(repeat first|exact In.here|apply In.there|apply In.skip);assumption)|(apply Rd.oldR;(repeat first|exact In.here|apply In.there|apply In.skip);assumption)|exact Rd.nil|assumption);(first|eq_refl|omega);omega;omega)
|(apply G_neqB;eq_refl;eq_refl))
  exact ⟨[], (by repeat first | exact Wk.nil | exact Wk.refl | (apply Wk.cons; (focus ((repeat first | exact Rem.here | apply Rem.there | apply Rem.skip); done))) | apply Wk.nilv | apply Wk.last | apply Wk.drop), rfl, rfl⟩
theorem of_cv {w : World} {A : Option Addr} {b c k : Nat} {v : List Bool} {l : Int} (hB : Blk w b 30 [.slice A k c]) (hA : RowA w booc 1 A v) (hk : k = v.length) (hl : hasL v l) : CVN Tryz.prog 74 [nu l, pt b] w fun r N => N = [] ∧ r = .bool (lv v l) := by
  obtain ⟨h0, h1, h2⟩ := hl
  refine CVN.enter 13 [3] Tryz.func74 rfl rfl rfl (by decide) rfl ?_
  repeat' (first
|(apply GC_seqK;intro K hK)
|(apply hK;clear hK K)
|(apply GC_region)
|(apply GL_nil)
|(apply thenG_normal)
|(apply GC_ret)
|(apply retG1;eq_refl)
|(apply GL_on;eq_refl;eq_refl)
|(apply G_pv;eq_refl;first|exact trivial|omega)
|(apply G_ldO;eq_refl;(repeat first|exact In.here|apply In.there|apply In.skip);assumption;eq_refl)
|(apply G_rd;eq_refl;(first|(apply Rd.own;(repeat first|exact In.here|apply In.there|apply In.skip);infer_instance)|(apply Rd.old;(repeat first|exact In.here|apply In.there|apply In.skip);assumption)|(apply Rd.oldR;(repeat first|exact In.here|apply In.there|apply In.skip);assumption)|exact Rd.nil|assumption);(case ih => infer_instance);omega;omega;eq_refl)
|(apply G_cmpD;eq_refl;eq_refl;(case hd => infer_instance))
|(apply G_ix;eq_refl;eq_refl;(first|(apply Rd.own;(repeat first|exact In.here|apply In.there|apply In.skip);infer_instance)|(apply Rd.old;(repeat first|exact In.here|apply In.there|apply In.skip);assumption)|(apply Rd.oldR;(repeat first|exact In.here|apply In.there|apply In.skip);assumption)|exact Rd.nil|assumption);(first|eq_refl|omega);omega;omega)
|(apply G_neqB;eq_refl;eq_refl))
  exact ⟨[], (by repeat first | exact Wk.nil | exact Wk.refl | (apply Wk.cons; (focus ((repeat first | exact Rem.here | apply Rem.there | apply Rem.skip); done))) | apply Wk.nilv | apply Wk.last | apply Wk.drop), rfl, rfl⟩
theorem values_cv {w : World} {c : Circ} {h js : Hd} {p : Nat} {B S T : Option Addr} {k1 k2 k3 : Nat} {s r : List Bool} (R : Right c) (hP : Blk w p 126 (rcells c h B k1)) (H : CirAt w c h js) (hB : RowA w icell 1 B (ordM c)) (hS : RowA w booc 1 S s) (hT : RowA w booc 1 T r) (hs : s.length = c.latches.length) (hr : r.length = c.inputs.length) :
    CVN Tryz.prog 49 [pt p, .slice S s.length k2, .slice T r.length k3] w fun v N => ∃ A' k', v = .slice A' (valM c s r).length k' ∧ N = [.vec booc 1 4 A' k' (valM c s r)] := by
  have hLat := H.latches
  have hInp := H.inputs
  have hAnd := H.ands
  have m0 := R.m0
  have m1 := R.m1
  have n1 := R.nIn
  have n2 := R.nLat
  have n3 := R.nAnd
  have n4 := R.ordLen
  refine CVN.enter 107 [6] Tryz.func49 rfl rfl rfl (by decide) rfl ?_
  repeat' (first
|(apply GC_seqK;intro K hK)
|(apply hK;clear hK K)
|(apply GC_block)
|(apply GC_region)
|(apply GL_nil)
|(apply thenG_normal)
|(apply GL_on;eq_refl;eq_refl)
|(apply G_pv;eq_refl;first|exact trivial|omega)
|(apply G_field;eq_refl)
|(apply G_ldO;eq_refl;(repeat first|exact In.here|apply In.there|apply In.skip);assumption;eq_refl)
|(apply G_len;eq_refl)
|(apply G_alloc;eq_refl;intro _)
|(apply G_st;(first|exact wr_p|kernel_rfl);eq_refl;eq_refl;eq_refl;eq_refl;(repeat first|exact Upd.here|apply Upd.there|apply Upd.skip);(first|decide|exact Nat.le_of_ble_eq_true rfl))
|(apply G_makeI booc;eq_refl;eq_refl;omega;eq_refl;omega;decide;intro _))
  rename_i b1 b0
  refine GC_loopK [0, 1, 2, 7, 26] (fun s : Nat × List Bool => [(27, nu s.1)]) (fun s => [.box b0 30 [.slice (some ⟨b1, 0, none⟩) (c.max + 1).toNat (c.max + 1).toNat], .vec booc 1 4 (some ⟨b1, 0, none⟩) (c.max + 1).toNat s.2, .old w none_]) (fun s => s.1 ≤ c.inputs.length ∧ s.2 = vIn c r s.1) (fun s => c.inputs.length - s.1) (0, _) (by repeat first | exact Pick.nil | (apply Pick.cons; eq_refl)) (by repeat first | exact trivial | refine ⟨rfl, ?_⟩) (by repeat first | exact Wk.nil | exact Wk.refl | (apply Wk.cons; (focus ((repeat first | exact Rem.here | apply Rem.there | apply Rem.skip); done))) | apply Wk.nilv | apply Wk.last | apply Wk.drop) ⟨Nat.zero_le _, rfl⟩ ?_
  rintro ⟨i, v⟩ ⟨hi, hv⟩
  dsimp only at hi hv ⊢
  have hlen : v.length = (c.max + 1).toNat := by rw [hv, vIn_len]
  rcases Nat.lt_or_ge i c.inputs.length with hlt | hge
  · have hd := R.inp (gt_mem (l := c.inputs) (i := (i : Int)) (by omega) (by omega))
    have hst := vIn_succ c r i
    rw [← hv] at hst
    unfold defR at hd
    repeat' (first
|(apply GC_seqK;intro K hK)
|(apply hK;clear hK K)
|(apply GC_block)
|(apply GC_region)
|(apply GL_nil)
|(apply thenG_normal)
|(apply blockG_normal)
|(apply GC_skip)
|(apply GC_if_true;eq_refl)
|(apply GL_on;eq_refl;eq_refl)
|(refine GC_draws (id := 5) [.q 0, .q 1, .q 2, .q 3, .q 4, .q 5, .q 6, .q 7, .q 8, .q 9, .q 10, .q 11, .q 12, .q 13, .q 14, .c 15] mixed (by kernel_rfl) (by kernel_rfl) ?_)
|(apply GS_nil)
|(apply GS_qon;eq_refl;eq_refl;eq_refl;eq_refl)
|(apply GS_con;eq_refl;eq_refl;eq_refl;eq_refl)
|(apply G_pv;eq_refl;first|exact trivial|omega)
|(apply G_field;eq_refl)
|(apply G_ld;eq_refl;(repeat first|exact In.here|apply In.there|apply In.skip);eq_refl)
|(apply G_ldO;eq_refl;(repeat first|exact In.here|apply In.there|apply In.skip);assumption;eq_refl)
|(apply G_rd;eq_refl;(first|(apply Rd.own;(repeat first|exact In.here|apply In.there|apply In.skip);infer_instance)|(apply Rd.old;(repeat first|exact In.here|apply In.there|apply In.skip);assumption)|(apply Rd.oldR;(repeat first|exact In.here|apply In.there|apply In.skip);assumption)|exact Rd.nil|assumption);(case ih => infer_instance);omega;omega;eq_refl)
|(apply G_cmpT;eq_refl;eq_refl;omega)
|(apply G_ix;eq_refl;eq_refl;(first|(apply Rd.own;(repeat first|exact In.here|apply In.there|apply In.skip);infer_instance)|(apply Rd.old;(repeat first|exact In.here|apply In.there|apply In.skip);assumption)|(apply Rd.oldR;(repeat first|exact In.here|apply In.there|apply In.skip);assumption)|exact Rd.nil|assumption);(first|eq_refl|omega);omega;omega)
|(apply G_stV;(first|exact wr_p|kernel_rfl);eq_refl;eq_refl;eq_refl;eq_refl;(repeat first|exact Upd.here|apply Upd.there|apply Upd.skip);infer_instance;infer_instance;eq_refl;omega;(try simp only [List.length_set, List.length_append, List.length_replicate]);omega))
    exact ⟨(i + 1, _), (by repeat first | exact trivial | refine ⟨rfl, ?_⟩), (by repeat first | exact Wk.nil | exact Wk.refl | (apply Wk.cons; (focus ((repeat first | exact Rem.here | apply Rem.there | apply Rem.skip); done))) | apply Wk.nilv | apply Wk.last | apply Wk.drop), ⟨hlt, hst.symm⟩, by simp only; omega⟩
  · obtain rfl : i = c.inputs.length := by omega
    repeat' (first
|(apply GC_seqK;intro K hK)
|(apply hK;clear hK K)
|(clear hK K;apply hK;clear hK K)
|(apply GC_block)
|(apply GC_region)
|(apply GL_nil)
|(apply thenG_normal)
|(apply thenG_exit)
|(apply blockG_hit)
|(apply GC_exit)
|(apply GC_if_false;eq_refl)
|(apply GL_on;eq_refl;eq_refl)
|(apply G_pv;eq_refl;first|exact trivial|omega)
|(apply G_field;eq_refl)
|(apply G_ldO;eq_refl;(repeat first|exact In.here|apply In.there|apply In.skip);assumption;eq_refl)
|(apply G_cmpF;eq_refl;eq_refl;omega)
|(apply G_len;eq_refl))
    refine GC_loopK [0, 1, 2, 7, 51] (fun s : Nat × List Bool => [(52, nu s.1)]) (fun s => [.box b0 30 [.slice (some ⟨b1, 0, none⟩) (c.max + 1).toNat (c.max + 1).toNat], .vec booc 1 4 (some ⟨b1, 0, none⟩) (c.max + 1).toNat s.2, .old w none_]) (fun t => t.1 ≤ c.latches.length ∧ t.2 = vLt c s v t.1) (fun s => c.latches.length - s.1) (0, _) (by repeat first | exact Pick.nil | (apply Pick.cons; eq_refl)) (by repeat first | exact trivial | refine ⟨rfl, ?_⟩) (by repeat first | exact Wk.nil | exact Wk.refl | (apply Wk.cons; (focus ((repeat first | exact Rem.here | apply Rem.there | apply Rem.skip); done))) | apply Wk.nilv | apply Wk.last | apply Wk.drop) ⟨Nat.zero_le _, rfl⟩ ?_
    rintro ⟨i, v2⟩ ⟨hi2, hv2⟩
    dsimp only at hi2 hv2 ⊢
    have hlen2 : v2.length = (c.max + 1).toNat := by rw [hv2, vLt_len, hlen]
    rcases Nat.lt_or_ge i c.latches.length with hlt | hge
    · have hd := (R.lat (gt_mem (l := c.latches) (i := (i : Int)) (by omega) (by omega))).1
      have hst := vLt_succ c s v i
      rw [← hv2] at hst
      unfold defR at hd
      repeat' (first
|(apply GC_seqK;intro K hK)
|(apply hK;clear hK K)
|(apply GC_block)
|(apply GC_region)
|(apply GL_nil)
|(apply thenG_normal)
|(apply blockG_normal)
|(apply GC_skip)
|(apply GC_if_true;eq_refl)
|(apply GL_on;eq_refl;eq_refl)
|(refine GC_draws (id := 10) [.q 0, .q 1, .q 2, .q 3, .q 4, .q 5, .q 6, .q 7, .q 8, .q 9, .q 10, .q 11, .q 12, .q 13, .q 14, .q 15, .c 16] mixed (by kernel_rfl) (by kernel_rfl) ?_)
|(apply GS_nil)
|(apply GS_qon;eq_refl;eq_refl;eq_refl;eq_refl)
|(apply GS_con;eq_refl;eq_refl;eq_refl;eq_refl)
|(apply G_pv;eq_refl;first|exact trivial|omega)
|(apply G_field;eq_refl)
|(apply G_fieldP;eq_refl)
|(apply G_ld;eq_refl;(repeat first|exact In.here|apply In.there|apply In.skip);eq_refl)
|(apply G_ldO;eq_refl;(repeat first|exact In.here|apply In.there|apply In.skip);assumption;eq_refl)
|(apply G_rd;eq_refl;(first|(apply Rd.own;(repeat first|exact In.here|apply In.there|apply In.skip);infer_instance)|(apply Rd.old;(repeat first|exact In.here|apply In.there|apply In.skip);assumption)|(apply Rd.oldR;(repeat first|exact In.here|apply In.there|apply In.skip);assumption)|exact Rd.nil|assumption);(case ih => infer_instance);omega;omega;eq_refl)
|(apply G_cmpT;eq_refl;eq_refl;omega)
|(apply G_ix;eq_refl;eq_refl;(first|(apply Rd.own;(repeat first|exact In.here|apply In.there|apply In.skip);infer_instance)|(apply Rd.old;(repeat first|exact In.here|apply In.there|apply In.skip);assumption)|(apply Rd.oldR;(repeat first|exact In.here|apply In.there|apply In.skip);assumption)|exact Rd.nil|assumption);(first|eq_refl|omega);omega;omega)
|(apply G_stV;(first|exact wr_p|kernel_rfl);eq_refl;eq_refl;eq_refl;eq_refl;(repeat first|exact Upd.here|apply Upd.there|apply Upd.skip);infer_instance;infer_instance;eq_refl;omega;(try simp only [List.length_set, List.length_append, List.length_replicate]);omega))
      exact ⟨(i + 1, _), (by repeat first | exact trivial | refine ⟨rfl, ?_⟩), (by repeat first | exact Wk.nil | exact Wk.refl | (apply Wk.cons; (focus ((repeat first | exact Rem.here | apply Rem.there | apply Rem.skip); done))) | apply Wk.nilv | apply Wk.last | apply Wk.drop), ⟨hlt, hst.symm⟩, by simp only; omega⟩
    · obtain rfl : i = c.latches.length := by omega
      repeat' (first
|(apply GC_seqK;intro K hK)
|(apply hK;clear hK K)
|(clear hK K;apply hK;clear hK K)
|(apply GC_block)
|(apply GC_region)
|(apply GL_nil)
|(apply thenG_normal)
|(apply thenG_exit)
|(apply blockG_hit)
|(apply GC_exit)
|(apply GC_if_false;eq_refl)
|(apply GL_on;eq_refl;eq_refl)
|(apply G_pv;eq_refl;first|exact trivial|omega)
|(apply G_field;eq_refl)
|(apply G_ldO;eq_refl;(repeat first|exact In.here|apply In.there|apply In.skip);assumption;eq_refl)
|(apply G_cmpF;eq_refl;eq_refl;omega)
|(apply G_len;eq_refl)
|(apply G_fun;eq_refl))
      refine GC_loopK [0, 1, 2, 7, 10, 76, 77] (fun s : Nat × List Bool => [(78, nu s.1)]) (fun s => [.box b0 30 [.slice (some ⟨b1, 0, none⟩) (c.max + 1).toNat (c.max + 1).toNat], .vec booc 1 4 (some ⟨b1, 0, none⟩) (c.max + 1).toNat s.2, .old w none_]) (fun t => t.1 ≤ (ordM c).length ∧ t.2 = vAn c (ordM c) v2 t.1) (fun s => (ordM c).length - s.1) (0, _) (by repeat first | exact Pick.nil | (apply Pick.cons; eq_refl)) (by repeat first | exact trivial | refine ⟨rfl, ?_⟩) (by repeat first | exact Wk.nil | exact Wk.refl | (apply Wk.cons; (focus ((repeat first | exact Rem.here | apply Rem.there | apply Rem.skip); done))) | apply Wk.nilv | apply Wk.last | apply Wk.drop) ⟨Nat.zero_le _, rfl⟩ ?_
      rintro ⟨i, v3⟩ ⟨hi3, hv3⟩
      dsimp only at hi3 hv3 ⊢
      have hlen3 : v3.length = (c.max + 1).toNat := by rw [hv3, vAn_len, hlen2]
      rcases Nat.lt_or_ge i (ordM c).length with hlt | hge
      · have ho := R.ord (gt_mem (l := ordM c) (i := (i : Int)) (by omega) (by omega))
        have hst := vAn_succ c (ordM c) v2 i
        rw [← hv3] at hst
        obtain ⟨hd, hl1, hl2⟩ := R.gate (gt_mem (l := c.ands) ho.1 ho.2)
        have hl1' := hl1.has m1 hlen3
        have hl2' := hl2.has m1 hlen3
        unfold defR at hd
        have hlit : ∀ Γ, In Γ (.box b0 30 [.slice (some ⟨b1, 0, none⟩) (c.max + 1).toNat (c.max + 1).toNat]) → In Γ (.vec booc 1 4 (some ⟨b1, 0, none⟩) (c.max + 1).toNat v3) → ∀ l, hasL v3 l → ∀ w', Mem w' Γ → CVN Tryz.prog 74 ([nu l] ++ (#[pt b0] : Array Value).toList) w' fun r N => N = [] ∧ r = .bool (lv v3 l) := fun Γ h0 hi l hl w' M => of_cv (h0.box M) (hi.row M) hlen3.symm hl
        cases hx : lv v3 (gt c.ands (gt (ordM c) (i : Int))).2.1
        all_goals
          rw [hx] at hst
          repeat' (first
|(apply G_callF;eq_refl;eq_refl;infer_instance;eq_refl;(apply hlit;(repeat first|exact In.here|apply In.there|apply In.skip);(repeat first|exact In.here|apply In.there|apply In.skip);assumption);(first|rw [hx]|skip);rintro _ _ ⟨rfl, rfl⟩)
|(apply GC_seqK;intro K hK)
|(apply hK;clear hK K)
|(apply GC_block)
|(apply GC_region)
|(apply GL_nil)
|(apply thenG_normal)
|(apply blockG_normal)
|(apply GC_skip)
|(apply GC_if_true;eq_refl)
|(apply GL_on;eq_refl;eq_refl)
|(refine GC_draws (id := 17) [.q 0, .q 1, .q 2, .q 3, .q 4, .q 5, .q 6, .c 7, .q 8, .q 9, .q 10, .q 11, .c 12, .q 13, .q 14, .c 15] mixed (by kernel_rfl) (by kernel_rfl) ?_)
|(apply GS_nil)
|(apply GS_qon;eq_refl;eq_refl;eq_refl;eq_refl)
|(apply GS_qoff;eq_refl;eq_refl;eq_refl;eq_refl)
|(apply GS_con;eq_refl;eq_refl;eq_refl;eq_refl)
|(apply GS_coff;eq_refl;eq_refl;eq_refl;eq_refl)
|(apply G_pv;eq_refl;first|exact trivial|omega)
|(apply G_field;eq_refl)
|(apply G_ld;eq_refl;(repeat first|exact In.here|apply In.there|apply In.skip);eq_refl)
|(apply G_ldO;eq_refl;(repeat first|exact In.here|apply In.there|apply In.skip);assumption;eq_refl)
|(apply G_rd;eq_refl;(first|(apply Rd.own;(repeat first|exact In.here|apply In.there|apply In.skip);infer_instance)|(apply Rd.old;(repeat first|exact In.here|apply In.there|apply In.skip);assumption)|(apply Rd.oldR;(repeat first|exact In.here|apply In.there|apply In.skip);assumption)|exact Rd.nil|assumption);(case ih => infer_instance);omega;omega;eq_refl)
|(apply G_rdW;eq_refl;(first|(apply Rd.own;(repeat first|exact In.here|apply In.there|apply In.skip);infer_instance)|(apply Rd.old;(repeat first|exact In.here|apply In.there|apply In.skip);assumption)|(apply Rd.oldR;(repeat first|exact In.here|apply In.there|apply In.skip);assumption)|exact Rd.nil|assumption);infer_instance;(case ih => infer_instance);omega;omega)
|(apply G_cmpT;eq_refl;eq_refl;omega)
|(apply G_ix;eq_refl;eq_refl;(first|(apply Rd.own;(repeat first|exact In.here|apply In.there|apply In.skip);infer_instance)|(apply Rd.old;(repeat first|exact In.here|apply In.there|apply In.skip);assumption)|(apply Rd.oldR;(repeat first|exact In.here|apply In.there|apply In.skip);assumption)|exact Rd.nil|assumption);(first|eq_refl|omega);omega;omega)
|(apply G_alloc;eq_refl;intro _)
|(apply G_stV;(first|exact wr_p|kernel_rfl);eq_refl;eq_refl;eq_refl;eq_refl;(repeat first|exact Upd.here|apply Upd.there|apply Upd.skip);infer_instance;infer_instance;eq_refl;omega;(try simp only [List.length_set, List.length_append, List.length_replicate]);omega)
|(apply G_stW;(first|exact wr_p|kernel_rfl);eq_refl;eq_refl;eq_refl;eq_refl;(repeat first|exact Upd.here|apply Upd.there|apply Upd.skip);eq_refl))
        all_goals exact ⟨(i + 1, _), (by repeat first | exact trivial | refine ⟨rfl, ?_⟩), (by repeat first | exact Wk.nil | exact Wk.refl | (apply Wk.cons; (focus ((repeat first | exact Rem.here | apply Rem.there | apply Rem.skip); done))) | apply Wk.nilv | apply Wk.last | apply Wk.drop), ⟨hlt, hst.symm⟩, by simp only; omega⟩
      · obtain rfl : i = (ordM c).length := by omega
        repeat' (first
|(apply GC_seqK;intro K hK)
|(apply hK;clear hK K)
|(clear hK K;apply hK;clear hK K)
|(apply GC_region)
|(apply GL_nil)
|(apply thenG_normal)
|(apply thenG_exit)
|(apply blockG_hit)
|(apply GC_ret)
|(apply GC_exit)
|(apply GC_if_false;eq_refl)
|(apply retG1;eq_refl)
|(apply GL_on;eq_refl;eq_refl)
|(apply G_pv;eq_refl;first|exact trivial|omega)
|(apply G_ld;eq_refl;(repeat first|exact In.here|apply In.there|apply In.skip);eq_refl)
|(apply G_cmpF;eq_refl;eq_refl;omega))
        subst hv3 hv2 hv
        refine ⟨[_], (by repeat first | exact Wk.nil | exact Wk.refl | (apply Wk.cons; (focus ((repeat first | exact Rem.here | apply Rem.there | apply Rem.skip); done))) | apply Wk.nilv | apply Wk.last | apply Wk.drop), _, _, by rw [valM_len], rfl⟩
theorem next_cv {w : World} {c : Circ} {h js : Hd} {p : Nat} {A B : Option Addr} {k k1 : Nat} {v : List Bool} (hP : Blk w p 126 (rcells c h B k1)) (H : CirAt w c h js) (hA : RowA w booc 1 A v) (hn : c.latches.length ≤ 16384) (hl : ∀ x ∈ c.latches, hasL v x.2.1) :
    CVN Tryz.prog 51 [pt p, .slice A v.length k] w fun r N => ∃ A' k', r = .slice A' (nxtM c v).length k' ∧ N = [.vec booc 1 4 A' k' (nxtM c v)] := by
  have hLat := H.latches
  refine CVN.enter 35 [4] Tryz.func51 rfl rfl rfl (by decide) rfl ?_
  repeat' (first
|(apply GC_seqK;intro K hK)
|(apply hK;clear hK K)
|(apply GC_block)
|(apply GC_region)
|(apply GL_nil)
|(apply thenG_normal)
|(apply GL_on;eq_refl;eq_refl)
|(apply G_pv;eq_refl;first|exact trivial|omega)
|(apply G_field;eq_refl)
|(apply G_ldO;eq_refl;(repeat first|exact In.here|apply In.there|apply In.skip);assumption;eq_refl)
|(apply G_len;eq_refl)
|(apply G_make booc;eq_refl;eq_refl;eq_refl;omega;decide;intro _))
  rename_i b1
  refine GC_loopK [1, 5, 19, 20] (fun s : Nat × List Bool => [(21, nu s.1)]) (fun s => [.vec booc 1 4 (some ⟨b1, 0, none⟩) c.latches.length s.2, .old w none_]) (fun s => s.1 ≤ c.latches.length ∧ s.2 = fillL (fun x => lv v x.2.1) c.latches false s.1) (fun s => c.latches.length - s.1) (0, List.replicate c.latches.length false) (by repeat first | exact Pick.nil | (apply Pick.cons; eq_refl)) (by repeat first | exact trivial | refine ⟨rfl, ?_⟩) (by repeat first | exact Wk.nil | exact Wk.refl | (apply Wk.cons; (focus ((repeat first | exact Rem.here | apply Rem.there | apply Rem.skip); done))) | apply Wk.nilv | apply Wk.last | apply Wk.drop) ⟨Nat.zero_le _, fillL_0.symm⟩ ?_
  rintro ⟨i, out⟩ ⟨hi, hout⟩
  dsimp only at hi hout ⊢
  have hlen : out.length = c.latches.length := by rw [hout, fillL_len hi]
  rcases Nat.lt_or_ge i c.latches.length with hlt | hge
  · have hL := hl _ (gt_mem (l := c.latches) (i := (i : Int)) (by omega) (by omega))
    have hst := fillL_set (f := fun x : Tri => lv v x.2.1) (z := false) hlt
    rw [← hout] at hst
    have hlit : ∀ Γ, In Γ (.old w none_) → ∀ w', Mem w' Γ → CVN Tryz.prog 77 [.slice A v.length k, nu (gt c.latches (i : Int)).2.1] w' _ := fun Γ h0 w' M => is_cv (hA.chg (h0.old M)) rfl hL
    repeat' (first
|(apply G_call;eq_refl;eq_refl;(apply hlit;(repeat first|exact In.here|apply In.there|apply In.skip));rintro _ _ ⟨rfl, rfl⟩)
|(apply GC_seqK;intro K hK)
|(apply hK;clear hK K)
|(apply GC_block)
|(apply GC_region)
|(apply GL_nil)
|(apply thenG_normal)
|(apply blockG_normal)
|(apply GC_skip)
|(apply GC_if_true;eq_refl)
|(apply GL_on;eq_refl;eq_refl)
|(apply G_pv;eq_refl;first|exact trivial|omega)
|(apply G_field;eq_refl)
|(apply G_ld;eq_refl;(repeat first|exact In.here|apply In.there|apply In.skip);eq_refl)
|(apply G_rdW;eq_refl;(first|(apply Rd.own;(repeat first|exact In.here|apply In.there|apply In.skip);infer_instance)|(apply Rd.old;(repeat first|exact In.here|apply In.there|apply In.skip);assumption)|(apply Rd.oldR;(repeat first|exact In.here|apply In.there|apply In.skip);assumption)|exact Rd.nil|assumption);infer_instance;(case ih => infer_instance);omega;omega)
|(apply G_cmpT;eq_refl;eq_refl;omega)
|(apply G_ix;eq_refl;eq_refl;(first|(apply Rd.own;(repeat first|exact In.here|apply In.there|apply In.skip);infer_instance)|(apply Rd.old;(repeat first|exact In.here|apply In.there|apply In.skip);assumption)|(apply Rd.oldR;(repeat first|exact In.here|apply In.there|apply In.skip);assumption)|exact Rd.nil|assumption);(first|eq_refl|omega);omega;omega)
|(apply G_alloc;eq_refl;intro _)
|(apply G_stV;(first|exact wr_p|kernel_rfl);eq_refl;eq_refl;eq_refl;eq_refl;(repeat first|exact Upd.here|apply Upd.there|apply Upd.skip);infer_instance;infer_instance;eq_refl;omega;(try simp only [List.length_set, List.length_append, List.length_replicate]);omega)
|(apply G_stW;(first|exact wr_p|kernel_rfl);eq_refl;eq_refl;eq_refl;eq_refl;(repeat first|exact Upd.here|apply Upd.there|apply Upd.skip);eq_refl))
    exact ⟨(i + 1, _), (by repeat first | exact trivial | refine ⟨rfl, ?_⟩), (by repeat first | exact Wk.nil | exact Wk.refl | (apply Wk.cons; (focus ((repeat first | exact Rem.here | apply Rem.there | apply Rem.skip); done))) | apply Wk.nilv | apply Wk.last | apply Wk.drop), ⟨hlt, hst⟩, by simp only; omega⟩
  · rw [fillL_all hge] at hout
    repeat' (first
|(apply GC_seqK;intro K hK)
|(apply hK;clear hK K)
|(clear hK K;apply hK;clear hK K)
|(apply GC_region)
|(apply GL_nil)
|(apply thenG_normal)
|(apply thenG_exit)
|(apply blockG_hit)
|(apply GC_ret)
|(apply GC_exit)
|(apply GC_if_false;eq_refl)
|(apply retG1;eq_refl)
|(apply GL_on;eq_refl;eq_refl)
|(apply G_pv;eq_refl;first|exact trivial|omega)
|(apply G_cmpF;eq_refl;eq_refl;omega))
    have e1 : c.latches.length = (nxtM c v).length := by unfold nxtM; simp
    refine ⟨[.vec booc 1 4 (some ⟨b1, 0, none⟩) c.latches.length out], (by repeat first | exact Wk.nil | exact Wk.refl | (apply Wk.cons; (focus ((repeat first | exact Rem.here | apply Rem.there | apply Rem.skip); done))) | apply Wk.nilv | apply Wk.last | apply Wk.drop), some ⟨b1, 0, none⟩, c.latches.length, by rw [e1], by rw [hout]; rfl⟩
/-! ### slices.ContainsFunc at numbers -/
theorem indexFunc_cv {w : World} {f : FuncId} [F : Fn Tryz.prog f] {cap : Array Value} {p : Int → Bool} {A : Option Addr} {k : Nat} {ls : List Int} (hA : RowA w icell 1 A ls) (hn : ls.length ≤ 9223372036854775807) (hf : ∀ x ∈ ls, ∀ w', Chg w w' none_ → CVN Tryz.prog f ([nu x] ++ cap.toList) w' fun v N => N = [] ∧ v = .bool (p x)) :
    CVN Tryz.prog 100 [.slice A ls.length k, .func (.func f) #[] cap] w fun v N => N = [] ∧ ∃ i : Int, v = nu i ∧ decide (0 ≤ i) = ls.any p := by
  refine CVN.enter 19 [4] Tryz.func100 rfl rfl rfl (by decide) rfl ?_
  repeat' (first
|(apply GC_seqK;intro K hK)
|(apply hK;clear hK K)
|(apply GC_block)
|(apply GC_region)
|(apply GL_nil)
|(apply thenG_normal)
|(apply GL_on;eq_refl;eq_refl)
|(apply G_pv;eq_refl;first|exact trivial|omega)
|(apply G_len;eq_refl))
  refine GC_loopK [0, 1, 7] (fun i : Nat => [(8, nu i)]) (fun _ => [.old w none_]) (fun i => i ≤ ls.length ∧ (ls.take i).any p = false) (fun i => ls.length - i) 0 (by repeat first | exact Pick.nil | (apply Pick.cons; eq_refl)) (by repeat first | exact trivial | refine ⟨rfl, ?_⟩) (by repeat first | exact Wk.nil | exact Wk.refl | (apply Wk.cons; (focus ((repeat first | exact Rem.here | apply Rem.there | apply Rem.skip); done))) | apply Wk.nilv | apply Wk.last | apply Wk.drop) ⟨Nat.zero_le _, by simp⟩ ?_
  rintro i ⟨hi, hall⟩
  rcases Nat.lt_or_ge i ls.length with hlt | hge
  · have e1 := List.take_succ_eq_append_getElem hlt
    have eg := gt_nat hlt
    have hcl : ∀ Γ, In Γ (.old w none_) → ∀ w', Mem w' Γ → CVN Tryz.prog f ([nu (gt ls (i : Int))] ++ cap.toList) w' _ := fun Γ h0 w' M => hf _ (by rw [eg]; exact List.getElem_mem hlt) w' (h0.old M)
    rw [← eg] at e1
    cases hv : p (gt ls (i : Int))
    all_goals
      rw [hv] at hcl
      repeat' (first
|(apply G_callF;eq_refl;eq_refl;infer_instance;eq_refl;(apply hcl;(repeat first|exact In.here|apply In.there|apply In.skip));rintro _ _ ⟨rfl, rfl⟩)
|(apply GC_seqK;intro K hK)
|(apply hK;clear hK K)
|(apply GC_block)
|(apply GC_region)
|(apply GL_nil)
|(apply thenG_normal)
|(apply thenG_ret)
|(apply blockG_ret)
|(apply blockG_normal)
|(apply GC_ret)
|(apply GC_skip)
|(apply GC_if_true;eq_refl)
|(apply GC_if_false;eq_refl)
|(apply retG1;eq_refl)
|(apply GL_on;eq_refl;eq_refl)
|(apply G_pv;eq_refl;first|exact trivial|omega)
|(apply G_rd;eq_refl;(first|(apply Rd.own;(repeat first|exact In.here|apply In.there|apply In.skip);infer_instance)|(apply Rd.old;(repeat first|exact In.here|apply In.there|apply In.skip);assumption)|(apply Rd.oldR;(repeat first|exact In.here|apply In.there|apply In.skip);assumption)|exact Rd.nil|assumption);(case ih => infer_instance);omega;omega;eq_refl)
|(apply G_cmpT;eq_refl;eq_refl;omega)
|(apply G_ix;eq_refl;eq_refl;(first|(apply Rd.own;(repeat first|exact In.here|apply In.there|apply In.skip);infer_instance)|(apply Rd.old;(repeat first|exact In.here|apply In.there|apply In.skip);assumption)|(apply Rd.oldR;(repeat first|exact In.here|apply In.there|apply In.skip);assumption)|exact Rd.nil|assumption);(first|eq_refl|omega);omega;omega))
    · exact ⟨i + 1, (by repeat first | exact trivial | refine ⟨rfl, ?_⟩), (by repeat first | exact Wk.nil | exact Wk.refl | (apply Wk.cons; (focus ((repeat first | exact Rem.here | apply Rem.there | apply Rem.skip); done))) | apply Wk.nilv | apply Wk.last | apply Wk.drop), ⟨hlt, by rw [e1, List.any_append, hall]; simp [hv]⟩, by omega⟩
    · refine ⟨[], (by repeat first | exact Wk.nil | exact Wk.refl | (apply Wk.cons; (focus ((repeat first | exact Rem.here | apply Rem.there | apply Rem.skip); done))) | apply Wk.nilv | apply Wk.last | apply Wk.drop), rfl, _, rfl, ?_⟩
      have : ls.any p = true := List.any_eq_true.2 ⟨_, List.getElem_mem hlt, by rw [← eg, hv]⟩
      rw [this]
      simp
  · repeat' (first
|(apply GC_seqK;intro K hK)
|(apply hK;clear hK K)
|(clear hK K;apply hK;clear hK K)
|(apply GC_region)
|(apply GL_nil)
|(apply thenG_normal)
|(apply thenG_exit)
|(apply blockG_hit)
|(apply GC_ret)
|(apply GC_exit)
|(apply GC_if_false;eq_refl)
|(apply retG1;eq_refl)
|(apply GL_on;eq_refl;eq_refl)
|(apply G_pv;eq_refl;first|exact trivial|omega)
|(apply G_cmpF;eq_refl;eq_refl;omega))
    rw [List.take_of_length_le hge] at hall
    exact ⟨[], (by repeat first | exact Wk.nil | exact Wk.refl | (apply Wk.cons; (focus ((repeat first | exact Rem.here | apply Rem.there | apply Rem.skip); done))) | apply Wk.nilv | apply Wk.last | apply Wk.drop), rfl, _, rfl, by rw [hall]; rfl⟩
theorem containsFunc_cv {w : World} {f : FuncId} [F : Fn Tryz.prog f] {cap : Array Value} {p : Int → Bool} {A : Option Addr} {k : Nat} {ls : List Int} (hA : RowA w icell 1 A ls) (hn : ls.length ≤ 9223372036854775807) (hf : ∀ x ∈ ls, ∀ w', Chg w w' none_ → CVN Tryz.prog f ([nu x] ++ cap.toList) w' fun v N => N = [] ∧ v = .bool (p x)) :
    CVN Tryz.prog 86 [.slice A ls.length k, .func (.func f) #[] cap] w fun v N => N = [] ∧ v = .bool (ls.any p) := by
  have hix : ∀ Γ, In Γ (.old w none_) → ∀ w', Mem w' Γ → CVN Tryz.prog 100 [.slice A ls.length k, .func (.func f) #[] cap] w' _ := fun Γ h0 w' M => indexFunc_cv (p := p) (hA.chg (h0.old M)) hn fun x hx w2 hc => hf x hx w2 ((h0.old M).trans hc fun _ _ h => h)
  refine CVN.enter 9 [4] Tryz.func86 rfl rfl rfl (by decide) rfl ?_
  repeat' (first
|(apply G_call;eq_refl;eq_refl;(apply hix;(repeat first|exact In.here|apply In.there|apply In.skip));rintro _ _ ⟨rfl, i, rfl, hi⟩)
|(apply GC_seqK;intro K hK)
|(apply hK;clear hK K)
|(apply GC_region)
|(apply GL_nil)
|(apply thenG_normal)
|(apply GC_ret)
|(apply retG1;eq_refl)
|(apply GL_on;eq_refl;eq_refl)
|(apply G_pv;eq_refl;first|exact trivial|omega)
|(apply G_cmpD;eq_refl;eq_refl;(case hd => infer_instance)))
  exact ⟨[], (by repeat first | exact Wk.nil | exact Wk.refl | (apply Wk.cons; (focus ((repeat first | exact Rem.here | apply Rem.there | apply Rem.skip); done))) | apply Wk.nilv | apply Wk.last | apply Wk.drop), rfl, by rw [← hi]⟩
theorem notIs_cv {w : World} {A : Option Addr} {b c k : Nat} {v : List Bool} {l : Int} (hB : Blk w b 30 [.slice A k c]) (hA : RowA w booc 1 A v) (hk : k = v.length) (hl : hasL v l) : CVN Tryz.prog 87 [nu l, pt b] w fun r N => N = [] ∧ r = .bool (!lv v l) := by
  have his : ∀ Γ, In Γ (.old w none_) → ∀ w', Mem w' Γ → CVN Tryz.prog 77 [.slice A k c, nu l] w' _ := fun Γ h0 w' M => is_cv (hA.chg (h0.old M)) hk hl
  refine CVN.enter 8 [3] Tryz.func87 rfl rfl rfl (by decide) rfl ?_
  repeat' (first
|(apply G_call;eq_refl;eq_refl;(apply his;(repeat first|exact In.here|apply In.there|apply In.skip));rintro _ _ ⟨rfl, rfl⟩)
|(apply GC_seqK;intro K hK)
|(apply hK;clear hK K)
|(apply GC_region)
|(apply GL_nil)
|(apply thenG_normal)
|(apply GC_ret)
|(apply retG1;eq_refl)
|(apply GL_on;eq_refl;eq_refl)
|(apply G_pv;eq_refl;first|exact trivial|omega)
|(apply G_ldO;eq_refl;(repeat first|exact In.here|apply In.there|apply In.skip);assumption;eq_refl))
  exact ⟨[], (by repeat first | exact Wk.nil | exact Wk.refl | (apply Wk.cons; (focus ((repeat first | exact Rem.here | apply Rem.there | apply Rem.skip); done))) | apply Wk.nilv | apply Wk.last | apply Wk.drop), rfl, rfl⟩
theorem holds_cv {w : World} {c : Circ} {h js : Hd} {p : Nat} {A B : Option Addr} {k k1 : Nat} {v : List Bool} (hP : Blk w p 126 (rcells c h B k1)) (H : CirAt w c h js) (hA : RowA w booc 1 A v) (hn : c.constraints.length ≤ 16384) (hl : ∀ l ∈ c.constraints, hasL v l) :
    CVN Tryz.prog 76 [pt p, .slice A v.length k] w fun r N => N = [] ∧ r = .bool (c.constraints.all (lv v)) := by
  have hcf : ∀ Γ b, In Γ (.old w none_) → In Γ (.box b 30 [.slice A v.length k]) → ∀ w', Mem w' Γ → CVN Tryz.prog 86 [.slice (h 5).1 c.constraints.length (h 5).2, .func (.func 87) #[] #[pt b]] w' _ := fun Γ b h0 hb w' M => containsFunc_cv (p := fun l => !lv v l) (H.constraints.chg (h0.old M)) (by omega) fun x hx w2 hc => notIs_cv ((hb.box M).chg hc id) ((hA.chg (h0.old M)).chg hc) rfl (hl x hx)
  refine CVN.enter 13 [4] Tryz.func76 rfl rfl rfl (by decide) rfl ?_
  repeat' (first
|(apply G_call;eq_refl;eq_refl;(apply hcf;(repeat first|exact In.here|apply In.there|apply In.skip);(repeat first|exact In.here|apply In.there|apply In.skip));rintro _ _ ⟨rfl, rfl⟩)
|(apply GC_seqK;intro K hK)
|(apply hK;clear hK K)
|(apply GC_region)
|(apply GL_nil)
|(apply thenG_normal)
|(apply GC_ret)
|(apply retG1;eq_refl)
|(apply GL_on;eq_refl;eq_refl)
|(apply G_pv;eq_refl;first|exact trivial|omega)
|(apply G_field;eq_refl)
|(apply G_ldO;eq_refl;(repeat first|exact In.here|apply In.there|apply In.skip);assumption;eq_refl)
|(apply G_box;eq_refl;eq_refl;intro _)
|(apply G_fun;eq_refl))
  refine ⟨[], (by repeat first | exact Wk.nil | exact Wk.refl | (apply Wk.cons; (focus ((repeat first | exact Rem.here | apply Rem.there | apply Rem.skip); done))) | apply Wk.nilv | apply Wk.last | apply Wk.drop), rfl, ?_⟩
  congr 1
  rw [List.not_any_eq_all_not]
  simp
end SC
end Go.Proofs.YtbmngkdnebklpaaGreat
end
section
/- trestlebook: SameBools, SpoilBools; trestlelaw07: lent, lit. -/
set_option linter.unusedVariables false
set_option linter.unusedSimpArgs false
namespace Go.Proofs.YtbmngkdnebklpaaGreat
namespace SC
open Go.Proofs
theorem take_succ_eq {α : Type} [Inhabited α] {a b : List α} {i : Nat} (h : a.take i = b.take i) (ha : i < a.length) (hb : i < b.length) : a.take (i + 1) = b.take (i + 1) ↔ gt a (i : Int) = gt b (i : Int) := by
  rw [List.take_succ_eq_append_getElem ha, List.take_succ_eq_append_getElem hb, h, gt_nat ha, gt_nat hb]
  simp only [List.append_cancel_left_eq, List.cons.injEq, and_true]
theorem gt_ne {α : Type} [Inhabited α] {a b : List α} {i : Nat} (h : gt a (i : Int) ≠ gt b (i : Int)) : a ≠ b := fun e => h (by rw [e])
attribute [local irreducible] WC WL WX WS WO OX Does DoesU Enters CV Pure thenQ blockQ retQ Wants retQC GC GL GS GX RdB thenG blockG retG Rd At gt CVN CVM
set_option maxRecDepth 100000
theorem sameBools_cv {w : World} {A B : Option Addr} {k1 k2 : Nat} {a b : List Bool} (hA : RowA w booc 1 A a) (hB : RowA w booc 1 B b) (na : a.length ≤ 9223372036854775807) (nb : b.length ≤ 9223372036854775807) : CVN Tryz.prog 13 [.slice A a.length k1, .slice B b.length k2] w fun v N => N = [] ∧ v = .bool (decide (a = b)) := by
  refine CVN.enter 26 [4] Tryz.func13 rfl rfl rfl (by decide) rfl ?_
  by_cases hl : a.length = b.length
  · repeat' (first
|(apply GC_seqK;intro K hK)
|(apply hK;clear hK K)
|(apply GC_block)
|(apply GC_region)
|(apply GL_nil)
|(apply thenG_normal)
|(apply GC_skip)
|(apply GC_if_false;eq_refl)
|(apply GL_on;eq_refl;eq_refl)
|(apply G_pv;eq_refl;first|exact trivial|omega)
|(apply G_cmpF;eq_refl;eq_refl;omega)
|(apply G_len;eq_refl))
    refine GC_loopK [0, 1] (fun i : Nat => [(5, nu i)]) (fun _ => [.old w none_]) (fun i => i ≤ a.length ∧ a.take i = b.take i) (fun i => a.length - i) 0 (by repeat first | exact Pick.nil | (apply Pick.cons; eq_refl)) (by repeat first | exact trivial | refine ⟨rfl, ?_⟩) (by repeat first | exact Wk.nil | exact Wk.refl | (apply Wk.cons; (focus ((repeat first | exact Rem.here | apply Rem.there | apply Rem.skip); done))) | apply Wk.nilv | apply Wk.last | apply Wk.drop) ⟨Nat.zero_le _, by simp⟩ ?_
    rintro i ⟨hi, hall⟩
    rcases Nat.lt_or_ge i a.length with hlt | hge
    · have hs := take_succ_eq hall hlt (by omega)
      have hne := gt_ne (a := a) (b := b) (i := i)
      generalize hx : gt a (i : Int) = x at *
      generalize hy : gt b (i : Int) = y at *
      cases x
      all_goals cases y
      all_goals
        repeat' (first
|(apply G_rd;eq_refl;(apply Rd.old;(repeat first|exact In.here|apply In.there|apply In.skip);assumption);(case ih => infer_instance);omega;omega;(first|rw [hx]|rw [hy]);eq_refl)
|(apply GC_seqK;intro K hK)
|(apply hK;clear hK K)
|(apply GC_block)
|(apply GC_region)
|(apply GL_nil)
|(apply thenG_normal)
|(apply thenG_ret)
|(apply blockG_ret)
|(apply blockG_normal)
|(apply GC_ret)
|(apply GC_skip)
|(apply GC_if_true;eq_refl)
|(apply GC_if_false;eq_refl)
|(apply retG1;eq_refl)
|(apply GL_on;eq_refl;eq_refl)
|(refine GC_draws (id := 6) [.q 0, .q 1, .q 2, .q 3, .q 4, .q 5, .q 6, .q 7, .q 8] mixed (by kernel_rfl) (by kernel_rfl) ?_)
|(apply GS_nil)
|(apply GS_qon;eq_refl;eq_refl;eq_refl;eq_refl)
|(apply G_pv;eq_refl;first|exact trivial|omega)
|(apply G_cmpT;eq_refl;eq_refl;omega)
|(apply G_len;eq_refl)
|(apply G_ix;eq_refl;eq_refl;(first|(apply Rd.own;(repeat first|exact In.here|apply In.there|apply In.skip);infer_instance)|(apply Rd.old;(repeat first|exact In.here|apply In.there|apply In.skip);assumption)|(apply Rd.oldR;(repeat first|exact In.here|apply In.there|apply In.skip);assumption)|exact Rd.nil|assumption);(first|eq_refl|omega);omega;omega)
|(apply G_neqB;eq_refl;eq_refl))
      all_goals first
        | exact ⟨i + 1, (by repeat first | exact trivial | refine ⟨rfl, ?_⟩), (by repeat first | exact Wk.nil | exact Wk.refl | (apply Wk.cons; (focus ((repeat first | exact Rem.here | apply Rem.there | apply Rem.skip); done))) | apply Wk.nilv | apply Wk.last | apply Wk.drop), ⟨hlt, hs.2 rfl⟩, by omega⟩
        | exact ⟨[], (by repeat first | exact Wk.nil | exact Wk.refl | (apply Wk.cons; (focus ((repeat first | exact Rem.here | apply Rem.there | apply Rem.skip); done))) | apply Wk.nilv | apply Wk.last | apply Wk.drop), rfl, by rw [decide_eq_false (hne (by decide))]⟩
    · repeat' (first
|(apply GC_seqK;intro K hK)
|(apply hK;clear hK K)
|(clear hK K;apply hK;clear hK K)
|(apply GC_region)
|(apply GL_nil)
|(apply thenG_normal)
|(apply thenG_exit)
|(apply blockG_hit)
|(apply GC_ret)
|(apply GC_exit)
|(apply GC_if_false;eq_refl)
|(apply retG1;eq_refl)
|(apply GL_on;eq_refl;eq_refl)
|(apply G_pv;eq_refl;first|exact trivial|omega)
|(apply G_cmpF;eq_refl;eq_refl;omega)
|(apply G_len;eq_refl))
      rw [List.take_of_length_le (by omega), List.take_of_length_le (by omega)] at hall
      exact ⟨[], (by repeat first | exact Wk.nil | exact Wk.refl | (apply Wk.cons; (focus ((repeat first | exact Rem.here | apply Rem.there | apply Rem.skip); done))) | apply Wk.nilv | apply Wk.last | apply Wk.drop), rfl, by rw [decide_eq_true hall]⟩
  · repeat' (first
|(apply GC_seqK;intro K hK)
|(apply hK;clear hK K)
|(apply GC_region)
|(apply GL_nil)
|(apply thenG_normal)
|(apply thenG_ret)
|(apply GC_ret)
|(apply GC_if_true;eq_refl)
|(apply retG1;eq_refl)
|(apply GL_on;eq_refl;eq_refl)
|(apply G_pv;eq_refl;first|exact trivial|omega)
|(apply G_cmpT;eq_refl;eq_refl;omega)
|(apply G_len;eq_refl))
    exact ⟨[], (by repeat first | exact Wk.nil | exact Wk.refl | (apply Wk.cons; (focus ((repeat first | exact Rem.here | apply Rem.there | apply Rem.skip); done))) | apply Wk.nilv | apply Wk.last | apply Wk.drop), rfl, by rw [decide_eq_false fun e => hl (by rw [e])]⟩
theorem spoilBools_cv {w : World} {A : Option Addr} {c : Nat} {l : List Bool} (M : Mem w [.vec booc 1 4 A c l]) (hn : l.length ≤ 9223372036854775806) : CVM Tryz.prog 15 [.slice A l.length c] w [.vec booc 1 4 A c l] fun v N => v = .tuple #[] ∧ ∃ l' : List Bool, l'.length = l.length ∧ N = [.vec booc 1 4 A c l'] := by
  refine CVM.enter 17 [] Tryz.func15 rfl rfl rfl (by decide) rfl M ?_
  repeat' (first
|(apply GC_seqK;intro K hK)
|(apply hK;clear hK K)
|(apply GC_block)
|(apply GC_region)
|(apply GL_nil)
|(apply thenG_normal)
|(apply GL_on;eq_refl;eq_refl)
|(apply G_pv;eq_refl;first|exact trivial|omega))
  refine GC_loopK [0] (fun s : Nat × List Bool => [(2, nu s.1)]) (fun s => [.vec booc 1 4 A c s.2, .old w (owns [.vec booc 1 4 A c l])]) (fun s => s.1 ≤ l.length ∧ s.2.length = l.length) (fun s => l.length - s.1) (0, l) (by repeat first | exact Pick.nil | (apply Pick.cons; eq_refl)) (by repeat first | exact trivial | refine ⟨rfl, ?_⟩) (by repeat first | exact Wk.nil | exact Wk.refl | (apply Wk.cons; (focus ((repeat first | exact Rem.here | apply Rem.there | apply Rem.skip); done))) | apply Wk.nilv | apply Wk.last | apply Wk.drop) ⟨Nat.zero_le _, rfl⟩ ?_
  rintro ⟨i, l'⟩ ⟨hi, hl⟩
  dsimp only at hi hl ⊢
  rcases Nat.lt_or_ge i l.length with hlt | hge
  · repeat' (first
|(apply GC_seqK;intro K hK)
|(apply hK;clear hK K)
|(apply GC_block)
|(apply GC_region)
|(apply GL_nil)
|(apply thenG_normal)
|(apply blockG_normal)
|(apply GC_skip)
|(apply GC_if_true;eq_refl)
|(apply GL_on;eq_refl;eq_refl)
|(apply G_pv;eq_refl;first|exact trivial|omega)
|(apply G_rd;eq_refl;(first|(apply Rd.own;(repeat first|exact In.here|apply In.there|apply In.skip);infer_instance)|(apply Rd.old;(repeat first|exact In.here|apply In.there|apply In.skip);assumption)|(apply Rd.oldR;(repeat first|exact In.here|apply In.there|apply In.skip);assumption)|exact Rd.nil|assumption);(case ih => infer_instance);omega;omega;eq_refl)
|(apply G_cmpT;eq_refl;eq_refl;omega)
|(apply G_len;eq_refl)
|(apply G_ix;eq_refl;eq_refl;(first|(apply Rd.own;(repeat first|exact In.here|apply In.there|apply In.skip);infer_instance)|(apply Rd.old;(repeat first|exact In.here|apply In.there|apply In.skip);assumption)|(apply Rd.oldR;(repeat first|exact In.here|apply In.there|apply In.skip);assumption)|exact Rd.nil|assumption);(first|eq_refl|omega);omega;omega)
|(apply G_stV;(first|exact wr_p|kernel_rfl);eq_refl;eq_refl;eq_refl;eq_refl;(repeat first|exact Upd.here|apply Upd.there|apply Upd.skip);infer_instance;infer_instance;eq_refl;omega;(try simp only [List.length_set, List.length_append, List.length_replicate]);omega))
    exact ⟨(i + 1, _), (by repeat first | exact trivial | refine ⟨rfl, ?_⟩), (by repeat first | exact Wk.nil | exact Wk.refl | (apply Wk.cons; (focus ((repeat first | exact Rem.here | apply Rem.there | apply Rem.skip); done))) | apply Wk.nilv | apply Wk.last | apply Wk.drop), ⟨hlt, by rw [List.length_set]; exact hl⟩, by simp only; omega⟩
  · repeat' (first
|(apply GC_seqK;intro K hK)
|(apply hK;clear hK K)
|(apply GC_region)
|(apply GL_nil)
|(apply thenG_normal)
|(apply thenG_exit)
|(apply blockG_hit)
|(apply GC_exit)
|(apply GC_if_false;eq_refl)
|(apply retG0n)
|(apply GL_on;eq_refl;eq_refl)
|(apply G_pv;eq_refl;first|exact trivial|omega)
|(apply G_cmpF;eq_refl;eq_refl;omega)
|(apply G_len;eq_refl))
    exact ⟨[_], (by repeat first | exact Wk.nil | exact Wk.refl | (apply Wk.cons; (focus ((repeat first | exact Rem.here | apply Rem.there | apply Rem.skip); done))) | apply Wk.nilv | apply Wk.last | apply Wk.drop), rfl, l', hl, rfl⟩
end SC
end Go.Proofs.YtbmngkdnebklpaaGreat
end
section
/- sim: ready, step, Values, Next, Holds, Starts. -/
set_option linter.unusedVariables false
set_option linter.unusedSimpArgs false
namespace Go.Proofs.YtbmngkdnebklpaaGreat
namespace SC
open Go.Proofs
/-- What ready answers. -/
def ReadyR (c : Circ) (h : Hd) (v : Value) (N : Mm) : Prop :=
  ((lookM c).2 ≠ 0 ∧ v = .tuple #[.pointer none, nu (lookM c).2] ∧ N = []) ∨ ((lookM c).2 = 0 ∧ ∃ p B k, v = .tuple #[pt p, nu 0] ∧ N = [.box p 126 (rcells c h B k), .vec icell 1 3 B k (ordM c)])
def StepR (c : Circ) (h : Hd) (s r : List Bool) (v : Value) (N : Mm) : Prop :=
  (stepE c s r ≠ 0 ∧ v = .tuple #[.pointer none, .slice none 0 0, nu (stepE c s r)] ∧ N = []) ∨
  (stepE c s r = 0 ∧ ∃ p B k A k', v = .tuple #[pt p, .slice A (valM c s r).length k', nu 0] ∧ N = [.vec booc 1 4 A k' (valM c s r), .box p 126 (rcells c h B k), .vec icell 1 3 B k (ordM c)])
attribute [local irreducible] WC WL WX WS WO OX Does DoesU Enters CV Pure thenQ blockQ retQ Wants retQC GC GL GS GX RdB thenG blockG retG Rd At gt CVN CVM
set_option maxRecDepth 100000
theorem ready_cv {w : World} {c : Circ} {h js : Hd} (H : CirIn w c h js) : CVN Tryz.prog 48 [.agg (ccells c h).toArray] w (ReadyR c h) := by
  have hord : ∀ Γ, In Γ (.old w none_) → ∀ w', Mem w' Γ → CVN Tryz.prog 73 [.agg (ccells c h).toArray] w' (OrdR c) := fun Γ hi w' M => have H' := H.chg (hi.old M); OrderG H'.at_ H'.sane
  refine CVN.enter 18 [2, 3] Tryz.func48 rfl rfl rfl (by decide) rfl ?_
  repeat' (first
|(apply G_call;eq_refl;eq_refl;(apply hord;(repeat first|exact In.here|apply In.there|apply In.skip));rintro _ _ (⟨he, rfl, rfl⟩|⟨he, A1, k1, rfl, rfl⟩))
|(apply GC_seqK;intro K hK)
|(apply hK;clear hK K)
|(apply GC_region)
|(apply GL_nil)
|(apply thenG_normal)
|(apply thenG_ret)
|(apply GC_ret)
|(apply GC_skip)
|(apply GC_if_true;eq_refl)
|(apply GC_if_false;eq_refl)
|(apply retG2;eq_refl;eq_refl)
|(apply GL_on;eq_refl;eq_refl)
|(apply G_pv;eq_refl;first|exact trivial|omega)
|(apply G_ldW;eq_refl;(repeat first|exact In.here|apply In.there|apply In.skip);eq_refl)
|(apply G_cmpT;eq_refl;eq_refl;omega)
|(apply G_cmpF;eq_refl;eq_refl;omega)
|(apply G_box;eq_refl;eq_refl;intro _)
|(apply GX_pure;apply build126_0_1 <;> eq_refl))
  · exact ⟨[], (by repeat first | exact Wk.nil | exact Wk.refl | (apply Wk.cons; (focus ((repeat first | exact Rem.here | apply Rem.there | apply Rem.skip); done))) | apply Wk.nilv | apply Wk.last | apply Wk.drop), .inl ⟨he, rfl, rfl⟩⟩
  · exact ⟨[.box _ 126 (rcells c h A1 k1), _], (by repeat first | exact Wk.nil | exact Wk.refl | (apply Wk.cons; (focus ((repeat first | exact Rem.here | apply Rem.there | apply Rem.skip); done))) | apply Wk.nilv | apply Wk.last | apply Wk.drop), .inr ⟨he, _, _, _, rfl, rfl⟩⟩
section
variable {w : World} {c : Circ} {h js : Hd} {S T : Option Addr} {k2 k3 : Nat} {s r : List Bool} (H : CirIn w c h js) (hS : RowA w booc 1 S s) (hT : RowA w booc 1 T r)
include H hS hT
theorem step_cv : CVN Tryz.prog 54 [.agg (ccells c h).toArray, .slice S s.length k2, .slice T r.length k3] w (StepR c h s r) := by
  have hrd : ∀ Γ, In Γ (.old w none_) → ∀ w', Mem w' Γ → CVN Tryz.prog 48 [.agg (ccells c h).toArray] w' (ReadyR c h) := fun Γ hi w' M => ready_cv (H.chg (hi.old M))
  have hvl : (lookM c).2 = 0 → s.length = c.latches.length → r.length = c.inputs.length → ∀ Γ p B k, In Γ (.old w none_) → In Γ (.box p 126 (rcells c h B k)) → In Γ (.vec icell 1 3 B k (ordM c)) → ∀ w', Mem w' Γ → CVN Tryz.prog 49 [pt p, .slice S s.length k2, .slice T r.length k3] w' _ := fun he h2 h3 Γ p B k hi hb hv w' M => by
    have H' := H.chg (hi.old M)
    exact values_cv (right_of H'.at_ H'.sane he) (hb.box M) H'.at_ (hv.row M) (hS.chg (hi.old M)) (hT.chg (hi.old M)) h2 h3
  refine CVN.enter 38 [6, 7, 8] Tryz.func54 rfl rfl rfl (by decide) rfl ?_
  repeat' (first
|(apply G_call;eq_refl;eq_refl;(apply hrd;(repeat first|exact In.here|apply In.there|apply In.skip));rintro _ _ (⟨he, rfl, rfl⟩|⟨he, p1, A1, k1, rfl, rfl⟩))
|(apply G_call;eq_refl;eq_refl;(apply hvl he;omega;omega;(repeat first|exact In.here|apply In.there|apply In.skip);(repeat first|exact In.here|apply In.there|apply In.skip);(repeat first|exact In.here|apply In.there|apply In.skip));rintro _ _ ⟨A2, k4, rfl, rfl⟩)
|(apply GC_seqK;intro K hK)
|(apply hK;clear hK K)
|(apply GC_region)
|(apply GL_nil)
|(apply thenG_normal)
|(apply thenG_ret)
|(apply GC_ret)
|(apply GC_skip)
|(apply GC_if_true;eq_refl)
|(apply GC_if_false;eq_refl)
|(apply retG3;eq_refl;eq_refl;eq_refl)
|(apply GL_on;eq_refl;eq_refl)
|(apply GL_off;eq_refl;eq_refl)
|(apply G_pv;eq_refl;first|exact trivial|omega)
|(apply G_field;eq_refl)
|(apply G_ld;eq_refl;(repeat first|exact In.here|apply In.there|apply In.skip);eq_refl)
|(apply G_ldW;eq_refl;(repeat first|exact In.here|apply In.there|apply In.skip);eq_refl)
|(apply G_cmpT;eq_refl;eq_refl;omega)
|(apply G_cmpF;eq_refl;eq_refl;omega)
|(apply G_cmp;eq_refl;eq_refl;all_goals intro _)
|(apply G_len;eq_refl)
|(apply G_box;eq_refl;eq_refl;intro _))
  all_goals first
    | exact ⟨[], (by repeat first | exact Wk.nil | exact Wk.refl | (apply Wk.cons; (focus ((repeat first | exact Rem.here | apply Rem.there | apply Rem.skip); done))) | apply Wk.nilv | apply Wk.last | apply Wk.drop), .inl ⟨by rw [stepE_look (by omega)]; assumption, by rw [stepE_look (by omega)], rfl⟩⟩
    | exact ⟨[], (by repeat first | exact Wk.nil | exact Wk.refl | (apply Wk.cons; (focus ((repeat first | exact Rem.here | apply Rem.there | apply Rem.skip); done))) | apply Wk.nilv | apply Wk.last | apply Wk.drop), .inl ⟨by rw [stepE_len (by omega) (by omega)]; decide, by rw [stepE_len (by omega) (by omega)], rfl⟩⟩
    | exact ⟨[_, _, _], (by repeat first | exact Wk.nil | exact Wk.refl | (apply Wk.cons; (focus ((repeat first | exact Rem.here | apply Rem.there | apply Rem.skip); done))) | apply Wk.nilv | apply Wk.last | apply Wk.drop), .inr ⟨stepE_ok (by omega) (by omega) (by omega), _, _, _, _, _, rfl, rfl⟩⟩
theorem ValuesP_cv : CVN Tryz.prog 29 [.agg (ccells c h).toArray, .slice S s.length k2, .slice T r.length k3] w (ValsR c s r) := by
  have hst : ∀ Γ, In Γ (.old w none_) → ∀ w', Mem w' Γ → CVN Tryz.prog 54 [.agg (ccells c h).toArray, .slice S s.length k2, .slice T r.length k3] w' (StepR c h s r) := fun Γ hi w' M => step_cv (H.chg (hi.old M)) (hS.chg (hi.old M)) (hT.chg (hi.old M))
  refine CVN.enter 21 [6, 7] Tryz.func29 rfl rfl rfl (by decide) rfl ?_
  repeat' (first
|(apply G_call;eq_refl;eq_refl;(apply hst;(repeat first|exact In.here|apply In.there|apply In.skip));rintro _ _ (⟨he, rfl, rfl⟩|⟨he, p1, B1, k1, A1, k4, rfl, rfl⟩))
|(apply GC_seqK;intro K hK)
|(apply hK;clear hK K)
|(apply GC_region)
|(apply GL_nil)
|(apply thenG_normal)
|(apply GC_ret)
|(apply retG2;eq_refl;eq_refl)
|(apply GL_on;eq_refl;eq_refl)
|(apply G_pv;eq_refl;first|exact trivial|omega)
|(apply G_ldW;eq_refl;(repeat first|exact In.here|apply In.there|apply In.skip);eq_refl)
|(apply G_box;eq_refl;eq_refl;intro _))
  · have e1 : valsM c s r = [] := if_neg he
    unfold ValsR
    rw [e1]
    exact ⟨[.vec booc 1 4 none 0 []], (by repeat first | exact Wk.nil | exact Wk.refl | (apply Wk.cons; (focus ((repeat first | exact Rem.here | apply Rem.there | apply Rem.skip); done))) | apply Wk.nilv | apply Wk.last | apply Wk.drop), none, 0, rfl, rfl⟩
  · have e1 : valsM c s r = valM c s r := if_pos he
    unfold ValsR
    rw [e1, he]
    exact ⟨[_], (by repeat first | exact Wk.nil | exact Wk.refl | (apply Wk.cons; (focus ((repeat first | exact Rem.here | apply Rem.there | apply Rem.skip); done))) | apply Wk.nilv | apply Wk.last | apply Wk.drop), _, _, rfl, rfl⟩
end
theorem startsM_right {c : Circ} {s : List Bool} (R : Right c) {i : Nat} (hi : i < c.latches.length) : okSt (gt c.latches (i : Int)) (gt s (i : Int)) = !(decide ((gt c.latches (i : Int)).2.2 < 2) && (gt s (i : Int) != decide ((gt c.latches (i : Int)).2.2 = 1))) := by
  have h := R.lat (gt_mem (l := c.latches) (i := (i : Int)) (by omega) (by omega))
  unfold defR at h
  generalize gt c.latches (i : Int) = x at *
  generalize gt s (i : Int) = b at *
  obtain ⟨h1, h2, h3⟩ := h
  unfold okSt
  rcases h3 with h3 | h3 | h3
  · rw [h3]; cases b <;> rfl
  · rw [h3]; cases b <;> rfl
  · have : ¬ x.2.2 < 2 := by omega
    have h4 : x.2.2 ≠ 0 := by omega
    have h5 : x.2.2 ≠ 1 := by omega
    simp [this, h4, h5]
theorem StartsP_cv {w : World} {c : Circ} {h js : Hd} {S : Option Addr} {k2 : Nat} {s : List Bool} (H : CirIn w c h js) (hS : RowA w booc 1 S s) : CVN Tryz.prog 26 [.agg (ccells c h).toArray, .slice S s.length k2] w fun v N => v = .tuple #[.bool (startB c s), nu (startE c s)] ∧ N = [] := by
  have hck : ∀ Γ, In Γ (.old w none_) → ∀ w', Mem w' Γ → CVN Tryz.prog 52 [.agg (ccells c h).toArray] w' fun v N => N = [] ∧ v = .tuple #[nu (lookM c).1, nu (lookM c).2] := fun Γ hi w' M => have H' := H.chg (hi.old M); CVN.of (check_cv H'.at_ H'.sane) fun v w' h => ⟨h.2, h.1⟩
  have hLat := H.at_.latches
  refine CVN.enter 46 [4, 5] Tryz.func26 rfl rfl rfl (by decide) rfl ?_
  by_cases h1 : (lookM c).2 = 0
  · by_cases h2 : s.length = c.latches.length
    · have e1 : startE c s = 0 := by unfold startE; rw [if_neg (by omega), if_neg (by omega)]
      have e2 : startB c s = startsM c s c.latches.length := if_pos e1
      have R := right_of H.at_ H.sane h1
      have hn := R.nLat
      rw [e1, e2]
      repeat' (first
|(apply G_call;eq_refl;eq_refl;(apply hck;(repeat first|exact In.here|apply In.there|apply In.skip));rintro _ _ ⟨rfl, rfl⟩)
|(apply GC_seqK;intro K hK)
|(apply hK;clear hK K)
|(apply GC_block)
|(apply GC_region)
|(apply GL_nil)
|(apply thenG_normal)
|(apply GC_skip)
|(apply GC_if_false;eq_refl)
|(apply GL_on;eq_refl;eq_refl)
|(apply G_pv;eq_refl;first|exact trivial|omega)
|(apply G_field;eq_refl)
|(apply G_ld;eq_refl;(repeat first|exact In.here|apply In.there|apply In.skip);eq_refl)
|(apply G_ldW;eq_refl;(repeat first|exact In.here|apply In.there|apply In.skip);eq_refl)
|(apply G_cmpF;eq_refl;eq_refl;omega)
|(apply G_len;eq_refl)
|(apply G_box;eq_refl;eq_refl;intro _))
      refine GC_loopK [1, 2, 25, 26] (fun i : Nat => [(27, nu i)]) (fun _ => [.old w none_]) (fun i => i ≤ c.latches.length ∧ startsM c s i = true) (fun i => c.latches.length - i) 0 (by repeat first | exact Pick.nil | (apply Pick.cons; eq_refl)) (by repeat first | exact trivial | refine ⟨rfl, ?_⟩) (by repeat first | exact Wk.nil | exact Wk.refl | (apply Wk.cons; (focus ((repeat first | exact Rem.here | apply Rem.there | apply Rem.skip); done))) | apply Wk.nilv | apply Wk.last | apply Wk.drop) ⟨Nat.zero_le _, rfl⟩ ?_
      rintro i ⟨hi, hall⟩
      rcases Nat.lt_or_ge i c.latches.length with hlt | hge
      · have hsc := startsM_succ c s i
        rw [hall, Bool.true_and] at hsc
        have hf := startsM_false (c := c) (s := s) hlt
        rw [startsM_right R hlt] at hsc hf
        generalize hb : gt s (i : Int) = b at *
        cases b
        all_goals
          repeat' (first
|(apply G_rd;eq_refl;(apply Rd.old;(repeat first|exact In.here|apply In.there|apply In.skip);assumption);(case ih => infer_instance);omega;omega;(rw [hb];eq_refl))
|(apply GC_seqK;intro K hK)
|(apply hK;clear hK K)
|(apply GC_block)
|(apply GC_region)
|(apply GL_nil)
|(apply thenG_normal)
|(apply thenG_ret)
|(apply blockG_ret)
|(apply blockG_normal)
|(apply GC_ret)
|(apply GC_skip)
|(apply GC_if_true;eq_refl)
|(apply GC_if_false;eq_refl)
|(apply retG2;eq_refl;eq_refl)
|(apply GL_on;eq_refl;eq_refl)
|(refine GC_draws (id := 9) [.q 0, .q 1, .q 2, .q 3, .q 4, .q 5, .q 6, .q 7, .q 8, .q 9, .q 10, .q 11, .q 12] mixed (by kernel_rfl) (by kernel_rfl) ?_)
|(apply GS_nil)
|(apply GS_qon;eq_refl;eq_refl;eq_refl;eq_refl)
|(apply GS_qoff;eq_refl;eq_refl;eq_refl;eq_refl)
|(apply G_pv;eq_refl;first|exact trivial|omega)
|(apply G_field;eq_refl)
|(apply G_ld;eq_refl;(repeat first|exact In.here|apply In.there|apply In.skip);eq_refl)
|(apply G_rdW;eq_refl;(first|(apply Rd.own;(repeat first|exact In.here|apply In.there|apply In.skip);infer_instance)|(apply Rd.old;(repeat first|exact In.here|apply In.there|apply In.skip);assumption)|(apply Rd.oldR;(repeat first|exact In.here|apply In.there|apply In.skip);assumption)|exact Rd.nil|assumption);infer_instance;(case ih => infer_instance);omega;omega)
|(apply G_cmpT;eq_refl;eq_refl;omega)
|(apply G_cmp;eq_refl;eq_refl;all_goals intro _)
|(apply G_ix;eq_refl;eq_refl;(first|(apply Rd.own;(repeat first|exact In.here|apply In.there|apply In.skip);infer_instance)|(apply Rd.old;(repeat first|exact In.here|apply In.there|apply In.skip);assumption)|(apply Rd.oldR;(repeat first|exact In.here|apply In.there|apply In.skip);assumption)|exact Rd.nil|assumption);(first|eq_refl|omega);omega;omega)
|(apply G_neqB;eq_refl;eq_refl)
|(apply G_alloc;eq_refl;intro _)
|(apply G_stW;(first|exact wr_p|kernel_rfl);eq_refl;eq_refl;eq_refl;eq_refl;(repeat first|exact Upd.here|apply Upd.there|apply Upd.skip);eq_refl))
        all_goals first
          | exact ⟨[], (by repeat first | exact Wk.nil | exact Wk.refl | (apply Wk.cons; (focus ((repeat first | exact Rem.here | apply Rem.there | apply Rem.skip); done))) | apply Wk.nilv | apply Wk.last | apply Wk.drop), by rw [hf (by simp [*])], rfl⟩
          | exact ⟨i + 1, (by repeat first | exact trivial | refine ⟨rfl, ?_⟩), (by repeat first | exact Wk.nil | exact Wk.refl | (apply Wk.cons; (focus ((repeat first | exact Rem.here | apply Rem.there | apply Rem.skip); done))) | apply Wk.nilv | apply Wk.last | apply Wk.drop), ⟨hlt, by rw [hsc]; simp [*]⟩, by omega⟩
      · obtain rfl : i = c.latches.length := by omega
        repeat' (first
|(apply GC_seqK;intro K hK)
|(apply hK;clear hK K)
|(clear hK K;apply hK;clear hK K)
|(apply GC_region)
|(apply GL_nil)
|(apply thenG_normal)
|(apply thenG_exit)
|(apply blockG_hit)
|(apply GC_ret)
|(apply GC_exit)
|(apply GC_if_false;eq_refl)
|(apply retG2;eq_refl;eq_refl)
|(apply GL_on;eq_refl;eq_refl)
|(apply G_pv;eq_refl;first|exact trivial|omega)
|(apply G_cmpF;eq_refl;eq_refl;omega))
        exact ⟨[], (by repeat first | exact Wk.nil | exact Wk.refl | (apply Wk.cons; (focus ((repeat first | exact Rem.here | apply Rem.there | apply Rem.skip); done))) | apply Wk.nilv | apply Wk.last | apply Wk.drop), by rw [hall], rfl⟩
    · have e1 : startE c s = 4 := by unfold startE; rw [if_neg (by omega), if_pos h2]
      have e2 : startB c s = false := if_neg (by rw [e1]; decide)
      rw [e1, e2]
      repeat' (first
|(apply G_call;eq_refl;eq_refl;(apply hck;(repeat first|exact In.here|apply In.there|apply In.skip));rintro _ _ ⟨rfl, rfl⟩)
|(apply GC_seqK;intro K hK)
|(apply hK;clear hK K)
|(apply GC_region)
|(apply GL_nil)
|(apply thenG_normal)
|(apply thenG_ret)
|(apply GC_ret)
|(apply GC_skip)
|(apply GC_if_true;eq_refl)
|(apply GC_if_false;eq_refl)
|(apply retG2;eq_refl;eq_refl)
|(apply GL_on;eq_refl;eq_refl)
|(apply G_pv;eq_refl;first|exact trivial|omega)
|(apply G_field;eq_refl)
|(apply G_ld;eq_refl;(repeat first|exact In.here|apply In.there|apply In.skip);eq_refl)
|(apply G_ldW;eq_refl;(repeat first|exact In.here|apply In.there|apply In.skip);eq_refl)
|(apply G_cmpT;eq_refl;eq_refl;omega)
|(apply G_cmpF;eq_refl;eq_refl;omega)
|(apply G_len;eq_refl)
|(apply G_box;eq_refl;eq_refl;intro _))
      exact ⟨[], (by repeat first | exact Wk.nil | exact Wk.refl | (apply Wk.cons; (focus ((repeat first | exact Rem.here | apply Rem.there | apply Rem.skip); done))) | apply Wk.nilv | apply Wk.last | apply Wk.drop), rfl, rfl⟩
  · have e1 : startE c s = (lookM c).2 := if_pos h1
    have e2 : startB c s = false := if_neg (by rw [e1]; exact h1)
    rw [e1, e2]
    repeat' (first
|(apply G_call;eq_refl;eq_refl;(apply hck;(repeat first|exact In.here|apply In.there|apply In.skip));rintro _ _ ⟨rfl, rfl⟩)
|(apply GC_seqK;intro K hK)
|(apply hK;clear hK K)
|(apply GC_region)
|(apply GL_nil)
|(apply thenG_normal)
|(apply thenG_ret)
|(apply GC_ret)
|(apply GC_if_true;eq_refl)
|(apply retG2;eq_refl;eq_refl)
|(apply GL_on;eq_refl;eq_refl)
|(apply G_pv;eq_refl;first|exact trivial|omega)
|(apply G_ldW;eq_refl;(repeat first|exact In.here|apply In.there|apply In.skip);eq_refl)
|(apply G_cmpT;eq_refl;eq_refl;omega)
|(apply G_box;eq_refl;eq_refl;intro _))
    exact ⟨[], (by repeat first | exact Wk.nil | exact Wk.refl | (apply Wk.cons; (focus ((repeat first | exact Rem.here | apply Rem.there | apply Rem.skip); done))) | apply Wk.nilv | apply Wk.last | apply Wk.drop), rfl, rfl⟩
end SC
end Go.Proofs.YtbmngkdnebklpaaGreat
end
section
/- What is so in a step. trestleref07: moment. -/
set_option linter.unusedVariables false
set_option linter.unusedSimpArgs false
namespace Go.Proofs.YtbmngkdnebklpaaGreat
namespace SC
open Go.Proofs
structure Mom where
  state : List Bool
  holds : Bool
  bads : List Int
  fair : List (Int × Int)
instance : Inhabited Mom := ⟨⟨[], false, [], []⟩⟩
abbrev HMom := (Option Addr × Nat) × (Option Addr × Nat) × (Option Addr × Nat)
def encM (p : HMom × Mom) : List Value := [.slice p.1.1.1 p.2.state.length p.1.1.2, .bool p.2.holds, .slice p.1.2.1.1 p.2.bads.length p.1.2.1.2, .slice p.1.2.2.1 p.2.fair.length p.1.2.2.2]
def momE (p : HMom × Mom) : Mm := [.vec booc 1 4 p.1.1.1 p.1.1.2 p.2.state, .vec icell 1 3 p.1.2.1.1 p.1.2.1.2 p.2.bads, .vec spotc 2 130 p.1.2.2.1 p.1.2.2.2 p.2.fair]
instance : Enc encM 4 := ⟨fun _ => rfl, fun a u h => by simp [encM] at h; rcases h with rfl | rfl | rfl | rfl <;> rfl, by decide⟩
def selI (v : List Bool) (ls : List Int) (i : Nat) : List Int := ((List.range i).filter fun (k : Nat) => lv v (gt ls (k : Int))).map fun (k : Nat) => (k : Int)
def selF (at_ : Int) (v : List Bool) (ls : List Int) (i : Nat) : List (Int × Int) := ((List.range i).filter fun (k : Nat) => lv v (gt ls (k : Int))).map fun (k : Nat) => (at_, (k : Int))
def fairJ (v : List Bool) (js : List (List Int)) (i : Nat) : List (Int × Int) := (List.range i).flatMap fun (k : Nat) => selF (k : Int) v (js.getD k []) (js.getD k []).length
def momM (c : Circ) (s v : List Bool) : Mom := ⟨s, c.constraints.all (lv v), selI v c.bads c.bads.length, fairJ v c.justice c.justice.length ++ selF (-1) v c.fairness c.fairness.length⟩
theorem selI_t {v : List Bool} {ls : List Int} {i : Nat} (h : lv v (gt ls (i : Int)) = true) : selI v ls (i + 1) = selI v ls i ++ [(i : Int)] := by unfold selI; rw [List.range_succ, List.filter_append, List.map_append]; simp [h]
theorem selI_f {v : List Bool} {ls : List Int} {i : Nat} (h : lv v (gt ls (i : Int)) = false) : selI v ls (i + 1) = selI v ls i := by unfold selI; rw [List.range_succ, List.filter_append, List.map_append]; simp [h]
theorem selF_t {a : Int} {v : List Bool} {ls : List Int} {i : Nat} (h : lv v (gt ls (i : Int)) = true) : selF a v ls (i + 1) = selF a v ls i ++ [(a, (i : Int))] := by unfold selF; rw [List.range_succ, List.filter_append, List.map_append]; simp [h]
theorem selF_f {a : Int} {v : List Bool} {ls : List Int} {i : Nat} (h : lv v (gt ls (i : Int)) = false) : selF a v ls (i + 1) = selF a v ls i := by unfold selF; rw [List.range_succ, List.filter_append, List.map_append]; simp [h]
theorem selI_len (v : List Bool) (ls : List Int) (i : Nat) : (selI v ls i).length ≤ i := by unfold selI; rw [List.length_map]; exact Nat.le_trans (List.length_filter_le ..) (by simp)
theorem selF_len (a : Int) (v : List Bool) (ls : List Int) (i : Nat) : (selF a v ls i).length ≤ i := by unfold selF; rw [List.length_map]; exact Nat.le_trans (List.length_filter_le ..) (by simp)
theorem fairJ_succ (v : List Bool) (js : List (List Int)) (i : Nat) : fairJ v js (i + 1) = fairJ v js i ++ selF (i : Int) v (js.getD i []) (js.getD i []).length := by unfold fairJ; rw [List.range_succ, List.flatMap_append]; simp
theorem sumL_take_le (l : List (List Int)) (i : Nat) : sumL (l.take i) ≤ sumL l := by
  unfold sumL
  induction l generalizing i with
  | nil => simp
  | cons a r ih =>
    cases i with
    | zero => simp
    | succ i => simp only [List.take_succ_cons, List.map_cons, List.sum_cons]; have := ih i; omega
theorem fairJ_len (v : List Bool) (js : List (List Int)) (i : Nat) (h : i ≤ js.length) : (fairJ v js i).length ≤ sumL (js.take i) := by
  induction i with
  | zero => simp [fairJ]
  | succ i ih =>
    have h1 := ih (by omega)
    have h2 := selF_len (i : Int) v (js.getD i []) (js.getD i []).length
    rw [fairJ_succ, List.length_append, List.take_succ_eq_append_getElem (by omega)]
    unfold sumL at *
    rw [List.map_append, List.sum_append]
    have e1 : js.getD i [] = js[i] := by simp [show i < js.length by omega]
    rw [e1] at h2 ⊢
    simp only [List.map_cons, List.map_nil, List.sum_cons, List.sum_nil]
    omega
theorem Right.sumJ {c : Circ} (R : Right c) (hf : c.Fits) : sumL c.justice ≤ 16384 := by
  have h1 := sumL_le (l := c.justice) (M := 17592186044416) fun x hx => by have := hf.each x hx; omega
  have h2 := R.nJust
  have h3 := R.sum
  unfold sumW at h3
  have h4 : c.justice.length * 17592186044416 ≤ 16384 * 17592186044416 := Nat.mul_le_mul_right _ h2
  rw [wrap64_id (by omega) (by omega)] at h3
  omega
theorem each_sum {l : List (List Int)} {i : Nat} (h : i < l.length) : sumL (l.take i) + l[i].length ≤ sumL l := by
  have := sumL_take_le l (i + 1)
  rw [List.take_succ_eq_append_getElem h] at this
  unfold sumL at *
  rw [List.map_append, List.sum_append] at this
  simpa using this
/-- What moment answers: a struct, its three lists new memory. -/
def MomR (m : Mom) (v : Value) (N : Mm) : Prop := ∃ hm : HMom, v = .agg (encM (hm, m)).toArray ∧ N = momE (hm, m)
attribute [local irreducible] WC WL WX WS WO OX Does DoesU Enters CV Pure thenQ blockQ retQ Wants retQC GC GL GS GX RdB thenG blockG retG Rd At gt CVN CVM
set_option maxRecDepth 100000
theorem momentRef_cv {w : World} {c : Circ} {h js : Hd} {S A : Option Addr} {k k2 : Nat} {s v : List Bool} (R : Right c) (H : CirAt w c h js) (hf : c.Fits) (hS : RowA w booc 1 S s) (hk : S = none → k = 0) (hn : s.length ≤ 16384) (hA : RowA w booc 1 A v) (hv : v.length = (c.max + 1).toNat) :
    CVN Tryz.prog 80 [.agg (ccells c h).toArray, .slice S s.length k, .slice A v.length k2] w (MomR (momM c s v)) := by
  have m1 := R.m1
  have n1 := R.nBad
  have n2 := R.nFair
  have n3 := R.nJust
  have n5 := R.sumJ hf
  have hBad := H.bads
  have hFair := H.fairness
  have hJ := H.jrow
  have hjl := jps_len c js
  have hall : ∀ Γ, In Γ (.old w none_) → ∀ w', Mem w' Γ → CVN Tryz.prog 94 [.slice A v.length k2, .slice (h 5).1 c.constraints.length (h 5).2] w' _ := fun Γ hi w' M => All_cv (hA.chg (hi.old M)) (H.constraints.chg (hi.old M)) (fun l hl => (R.con hl).has m1 hv) (by have := R.nCon; omega)
  have hlit : ∀ Γ, In Γ (.old w none_) → ∀ l, inR c l → ∀ w', Mem w' Γ → CVN Tryz.prog 57 [.slice A v.length k2, nu l] w' _ := fun Γ hi l hl w' M => Lit_cv (hA.chg (hi.old M)) (hl.has m1 hv)
  refine CVN.enterC (t := 77) 97 6 [] Tryz.func80 rfl rfl rfl (.inl rfl) rfl ?_
  repeat' (first
|(apply G_call;eq_refl;eq_refl;(apply hall;(repeat first|exact In.here|apply In.there|apply In.skip));rintro _ _ ⟨rfl, rfl⟩)
|(apply GC_seqK;intro K hK)
|(apply hK;clear hK K)
|(apply GC_block)
|(apply GC_region)
|(apply GL_nil)
|(apply thenG_normal)
|(apply GL_on;eq_refl;eq_refl)
|(refine GC_draws (id := 1) [.q 1, .q 3, .q 4, .q 5, .f 8, .c 0, .c 2, .c 6, .q 7, .land, .c 9] mixed (by kernel_rfl) (by kernel_rfl) ?_)
|(apply GS_nil)
|(apply GS_qon;eq_refl;eq_refl;eq_refl;eq_refl)
|(apply GS_con;eq_refl;eq_refl;eq_refl;eq_refl)
|(apply GS_fl;eq_refl;infer_instance;eq_refl;eq_refl;eq_refl)
|(apply GS_land;simp only [landG];intros)
|(apply G_pv;eq_refl;first|exact trivial|omega)
|(apply G_field;eq_refl)
|(apply G_ld;eq_refl;(repeat first|exact In.here|apply In.there|apply In.skip);eq_refl)
|(apply G_alloc;eq_refl;intro _)
|(apply G_box;eq_refl;eq_refl;intro _)
|(apply G_stW;(first|exact wr_p|kernel_rfl);eq_refl;eq_refl;eq_refl;eq_refl;(repeat first|exact Upd.here|apply Upd.there|apply Upd.skip);eq_refl)
|(apply G_appP;eq_refl;eq_refl;(repeat first|exact Rem.here|apply Rem.there);(first|(apply Rd.own;(repeat first|exact In.here|apply In.there|apply In.skip);infer_instance)|(apply Rd.old;(repeat first|exact In.here|apply In.there|apply In.skip);assumption)|(apply Rd.oldR;(repeat first|exact In.here|apply In.there|apply In.skip);assumption)|exact Rd.nil|assumption);infer_instance;assumption;eq_refl;eq_refl;omega;decide;intro _ _)
|(apply GX_pure;apply build77_0_1 <;> eq_refl)
|(apply G_newP (fun b => .slice (some ⟨b, 0, none⟩) 0 0);(intro _;apply buildS30_0);intro _))
  rename_i b3 b6 b12 A0 k0 b7
  refine GC_loopK [2, 3, 6, 7] (fun t : Nat × List Int × Option Addr × Nat => [(8, nu t.1)]) (fun t => [.box b7 77 [.slice A0 s.length k0, .bool (c.constraints.all (lv v)), .slice t.2.2.1 t.2.1.length t.2.2.2, .slice none 0 0], .vec icell 1 3 t.2.2.1 t.2.2.2 t.2.1, .vec booc 1 4 A0 k0 s, .box b6 77 [.slice none 0 0, .bool false, .slice none 0 0, .slice none 0 0], .box b3 29 (ccells c h), .old w none_])
    (fun t => t.1 ≤ c.bads.length ∧ t.2.1 = selI v c.bads t.1) (fun t => c.bads.length - t.1) (0, [], none, 0) (by repeat first | exact Pick.nil | (apply Pick.cons; eq_refl)) (by repeat first | exact trivial | refine ⟨rfl, ?_⟩) (by repeat first | exact Wk.nil | exact Wk.refl | (apply Wk.cons; (focus ((repeat first | exact Rem.here | apply Rem.there | apply Rem.skip); done))) | apply Wk.nilv | apply Wk.last | apply Wk.drop) ⟨Nat.zero_le _, rfl⟩ ?_
  rintro ⟨i, B, AB, kB⟩ ⟨hi, hB⟩
  dsimp only at hi hB ⊢
  have hBl : B.length ≤ i := by rw [hB]; exact selI_len ..
  rcases Nat.lt_or_ge i c.bads.length with hlt | hge
  · have hl := R.bad (gt_mem (l := c.bads) (i := (i : Int)) (by omega) (by omega))
    repeat' (first
|(apply G_call;eq_refl;eq_refl;(apply hlit;(repeat first|exact In.here|apply In.there|apply In.skip);assumption);rintro _ _ ⟨rfl, rfl⟩)
|(apply GC_seqK;intro K hK)
|(apply hK;clear hK K)
|(apply GC_block)
|(apply GC_region)
|(apply GL_nil)
|(apply thenG_normal)
|(apply blockG_normal)
|(apply GC_skip)
|(apply GC_if_true;eq_refl)
|(apply GC_if;eq_refl;all_goals intro _)
|(apply GL_on;eq_refl;eq_refl)
|(apply G_pv;eq_refl;first|exact trivial|omega)
|(apply G_field;eq_refl)
|(apply G_ld;eq_refl;(repeat first|exact In.here|apply In.there|apply In.skip);eq_refl)
|(apply G_rd;eq_refl;(first|(apply Rd.own;(repeat first|exact In.here|apply In.there|apply In.skip);infer_instance)|(apply Rd.old;(repeat first|exact In.here|apply In.there|apply In.skip);assumption)|(apply Rd.oldR;(repeat first|exact In.here|apply In.there|apply In.skip);assumption)|exact Rd.nil|assumption);(case ih => infer_instance);omega;omega;eq_refl)
|(apply G_cmpT;eq_refl;eq_refl;omega)
|(apply G_len;eq_refl)
|(apply G_ix;eq_refl;eq_refl;(first|(apply Rd.own;(repeat first|exact In.here|apply In.there|apply In.skip);infer_instance)|(apply Rd.old;(repeat first|exact In.here|apply In.there|apply In.skip);assumption)|(apply Rd.oldR;(repeat first|exact In.here|apply In.there|apply In.skip);assumption)|exact Rd.nil|assumption);(first|eq_refl|omega);omega;omega)
|(apply G_st;(first|exact wr_p|kernel_rfl);eq_refl;eq_refl;eq_refl;eq_refl;(repeat first|exact Upd.here|apply Upd.there|apply Upd.skip);(first|decide|exact Nat.le_of_ble_eq_true rfl))
|(apply G_app;(first|exact wr_p|kernel_rfl);eq_refl;eq_refl;(intro A c;(repeat first|exact Upd.here|apply Upd.there|apply Upd.skip));infer_instance;(repeat first|exact In.here|apply In.there|apply In.skip);(repeat first|exact Dec.nil|apply Dec.pr|apply Dec.tr|(apply Dec.c1;eq_refl)|(apply Dec.c2;eq_refl)|(apply Dec.c3;eq_refl));eq_refl;eq_refl;eq_refl;((try simp only [List.length_append, List.length_cons, List.length_nil]);omega);decide;intro _ _)
|(apply G_new (fun b => .slice (some ⟨b, 0, none⟩) 1 1);eq_refl;(intro _;apply buildS22_1 <;> eq_refl);intro _))
    · exact ⟨(i + 1, _, _, _), (by repeat first | exact trivial | refine ⟨rfl, ?_⟩), (by repeat first | exact Wk.nil | exact Wk.refl | (apply Wk.cons; (focus ((repeat first | exact Rem.here | apply Rem.there | apply Rem.skip); done))) | apply Wk.nilv | apply Wk.last | apply Wk.drop), ⟨hlt, by rw [selI_t (by assumption), hB]⟩, by simp only; omega⟩
    · exact ⟨(i + 1, _, _, _), (by repeat first | exact trivial | refine ⟨rfl, ?_⟩), (by repeat first | exact Wk.nil | exact Wk.refl | (apply Wk.cons; (focus ((repeat first | exact Rem.here | apply Rem.there | apply Rem.skip); done))) | apply Wk.nilv | apply Wk.last | apply Wk.drop), ⟨hlt, by rw [selI_f (by assumption), hB]⟩, by simp only; omega⟩
  · obtain rfl : i = c.bads.length := by omega
    repeat' (first
|(apply GC_seqK;intro K hK)
|(apply hK;clear hK K)
|(clear hK K;apply hK;clear hK K)
|(apply GC_block)
|(apply GC_region)
|(apply GL_nil)
|(apply thenG_normal)
|(apply thenG_exit)
|(apply blockG_hit)
|(apply GC_exit)
|(apply GC_if_false;eq_refl)
|(apply GL_on;eq_refl;eq_refl)
|(apply G_pv;eq_refl;first|exact trivial|omega)
|(apply G_field;eq_refl)
|(apply G_ld;eq_refl;(repeat first|exact In.here|apply In.there|apply In.skip);eq_refl)
|(apply G_cmpF;eq_refl;eq_refl;omega)
|(apply G_len;eq_refl))
    refine GC_loopK [2, 3, 6, 7] (fun t : Nat × List (Int × Int) × Option Addr × Nat => [(9, nu t.1)]) (fun t => [.box b7 77 [.slice A0 s.length k0, .bool (c.constraints.all (lv v)), .slice AB B.length kB, .slice t.2.2.1 t.2.1.length t.2.2.2], .vec spotc 2 130 t.2.2.1 t.2.2.2 t.2.1, .vec icell 1 3 AB kB B, .vec booc 1 4 A0 k0 s, .box b6 77 [.slice none 0 0, .bool false, .slice none 0 0, .slice none 0 0], .box b3 29 (ccells c h), .old w none_])
      (fun t => t.1 ≤ c.justice.length ∧ t.2.1 = fairJ v c.justice t.1) (fun t => c.justice.length - t.1) (0, [], none, 0) (by repeat first | exact Pick.nil | (apply Pick.cons; eq_refl)) (by repeat first | exact trivial | refine ⟨rfl, ?_⟩) (by repeat first | exact Wk.nil | exact Wk.refl | (apply Wk.cons; (focus ((repeat first | exact Rem.here | apply Rem.there | apply Rem.skip); done))) | apply Wk.nilv | apply Wk.last | apply Wk.drop) ⟨Nat.zero_le _, rfl⟩ ?_
    rintro ⟨i, F, AF, kF⟩ ⟨hi2, hF⟩
    dsimp only at hi2 hF ⊢
    have hFl := fairJ_len v c.justice i hi2
    rw [← hF] at hFl
    rcases Nat.lt_or_ge i c.justice.length with hlt | hge
    · have hje := H.jeach (js := js) hlt
      have ej := jps_gt c js hlt
      have el : (gt (jps c js) (i : Int)).2 = c.justice.getD i [] := by rw [ej]; simp [hlt]
      have hes := each_sum hlt
      have el2 : (gt (jps c js) (i : Int)).2.length = c.justice[i].length := by rw [ej]
      have hin : ∀ l ∈ (gt (jps c js) (i : Int)).2, inR c l := fun l hl => R.just (ls := c.justice[i]) (List.getElem_mem hlt) (by rw [ej] at hl; exact hl)
      have hsc := fairJ_succ v c.justice i
      rw [← el, ← hF] at hsc
      repeat' (first
|(apply GC_seqK;intro K hK)
|(apply hK;clear hK K)
|(apply GC_block)
|(apply GC_region)
|(apply GL_nil)
|(apply thenG_normal)
|(apply GC_skip)
|(apply GC_if_true;eq_refl)
|(apply GL_on;eq_refl;eq_refl)
|(apply G_pv;eq_refl;first|exact trivial|omega)
|(apply G_field;eq_refl)
|(apply G_ld;eq_refl;(repeat first|exact In.here|apply In.there|apply In.skip);eq_refl)
|(apply G_cmpT;eq_refl;eq_refl;omega)
|(apply G_len;eq_refl))
      refine GC_loopK [2, 3, 6, 7, 9] (fun t : Nat × List (Int × Int) × Option Addr × Nat => [(10, nu t.1)]) (fun t => [.box b7 77 [.slice A0 s.length k0, .bool (c.constraints.all (lv v)), .slice AB B.length kB, .slice t.2.2.1 t.2.1.length t.2.2.2], .vec spotc 2 130 t.2.2.1 t.2.2.2 t.2.1, .vec icell 1 3 AB kB B, .vec booc 1 4 A0 k0 s, .box b6 77 [.slice none 0 0, .bool false, .slice none 0 0, .slice none 0 0], .box b3 29 (ccells c h), .old w none_])
        (fun t => t.1 ≤ (gt (jps c js) (i : Int)).2.length ∧ t.2.1 = F ++ selF i v (gt (jps c js) (i : Int)).2 t.1) (fun t => (gt (jps c js) (i : Int)).2.length - t.1) (0, F, AF, kF) (by repeat first | exact Pick.nil | (apply Pick.cons; eq_refl)) (by repeat first | exact trivial | refine ⟨rfl, ?_⟩) (by repeat first | exact Wk.nil | exact Wk.refl | (apply Wk.cons; (focus ((repeat first | exact Rem.here | apply Rem.there | apply Rem.skip); done))) | apply Wk.nilv | apply Wk.last | apply Wk.drop) ⟨Nat.zero_le _, by simp [selF]⟩ ?_
      rintro ⟨j, F2, AF2, kF2⟩ ⟨hj, hF2⟩
      dsimp only at hj hF2 ⊢
      have hFl2 : F2.length ≤ F.length + j := by rw [hF2, List.length_append]; have := selF_len i v (gt (jps c js) (i : Int)).2 j; omega
      rcases Nat.lt_or_ge j (gt (jps c js) (i : Int)).2.length with hlt2 | hge2
      · have hl := hin _ (gt_mem (l := (gt (jps c js) (i : Int)).2) (i := (j : Int)) (by omega) (by omega))
        repeat' (first
|(apply G_call;eq_refl;eq_refl;(apply hlit;(repeat first|exact In.here|apply In.there|apply In.skip);assumption);rintro _ _ ⟨rfl, rfl⟩)
|(apply GC_seqK;intro K hK)
|(apply hK;clear hK K)
|(apply GC_block)
|(apply GC_region)
|(apply GL_nil)
|(apply thenG_normal)
|(apply blockG_normal)
|(apply GC_skip)
|(apply GC_if_true;eq_refl)
|(apply GC_if;eq_refl;all_goals intro _)
|(apply GL_on;eq_refl;eq_refl)
|(apply G_pv;eq_refl;first|exact trivial|omega)
|(apply G_field;eq_refl)
|(apply G_ld;eq_refl;(repeat first|exact In.here|apply In.there|apply In.skip);eq_refl)
|(apply G_rd;eq_refl;(first|(apply Rd.own;(repeat first|exact In.here|apply In.there|apply In.skip);infer_instance)|(apply Rd.old;(repeat first|exact In.here|apply In.there|apply In.skip);assumption)|(apply Rd.oldR;(repeat first|exact In.here|apply In.there|apply In.skip);assumption)|exact Rd.nil|assumption);(case ih => infer_instance);omega;omega;eq_refl)
|(apply G_cmpT;eq_refl;eq_refl;omega)
|(apply G_len;eq_refl)
|(apply G_ix;eq_refl;eq_refl;(first|(apply Rd.own;(repeat first|exact In.here|apply In.there|apply In.skip);infer_instance)|(apply Rd.old;(repeat first|exact In.here|apply In.there|apply In.skip);assumption)|(apply Rd.oldR;(repeat first|exact In.here|apply In.there|apply In.skip);assumption)|exact Rd.nil|assumption);(first|eq_refl|omega);omega;omega)
|(apply G_st;(first|exact wr_p|kernel_rfl);eq_refl;eq_refl;eq_refl;eq_refl;(repeat first|exact Upd.here|apply Upd.there|apply Upd.skip);(first|decide|exact Nat.le_of_ble_eq_true rfl))
|(apply G_app;(first|exact wr_p|kernel_rfl);eq_refl;eq_refl;(intro A c;(repeat first|exact Upd.here|apply Upd.there|apply Upd.skip));infer_instance;(repeat first|exact In.here|apply In.there|apply In.skip);(repeat first|exact Dec.nil|apply Dec.pr|apply Dec.tr|(apply Dec.c1;eq_refl)|(apply Dec.c2;eq_refl)|(apply Dec.c3;eq_refl));eq_refl;eq_refl;eq_refl;((try simp only [List.length_append, List.length_cons, List.length_nil]);omega);decide;intro _ _)
|(apply GX_pure;apply build130_0_1 <;> eq_refl)
|(apply G_new (fun b => .slice (some ⟨b, 0, none⟩) 1 1);eq_refl;(intro _;apply buildS75_1 <;> eq_refl);intro _))
        · exact ⟨(j + 1, _, _, _), (by repeat first | exact trivial | refine ⟨rfl, ?_⟩), (by repeat first | exact Wk.nil | exact Wk.refl | (apply Wk.cons; (focus ((repeat first | exact Rem.here | apply Rem.there | apply Rem.skip); done))) | apply Wk.nilv | apply Wk.last | apply Wk.drop), ⟨hlt2, by rw [selF_t (by assumption), hF2, List.append_assoc]⟩, by simp only; omega⟩
        · exact ⟨(j + 1, _, _, _), (by repeat first | exact trivial | refine ⟨rfl, ?_⟩), (by repeat first | exact Wk.nil | exact Wk.refl | (apply Wk.cons; (focus ((repeat first | exact Rem.here | apply Rem.there | apply Rem.skip); done))) | apply Wk.nilv | apply Wk.last | apply Wk.drop), ⟨hlt2, by rw [selF_f (by assumption), hF2]⟩, by simp only; omega⟩
      · obtain rfl : j = (gt (jps c js) (i : Int)).2.length := by omega
        repeat' (first
|(apply GC_seqK;intro K hK)
|(apply hK;clear hK K)
|(clear hK K;apply hK;clear hK K)
|(apply GC_region)
|(apply GL_nil)
|(apply thenG_normal)
|(apply thenG_exit)
|(apply blockG_hit)
|(apply blockG_normal)
|(apply GC_exit)
|(apply GC_if_false;eq_refl)
|(apply GL_on;eq_refl;eq_refl)
|(apply G_pv;eq_refl;first|exact trivial|omega)
|(apply G_field;eq_refl)
|(apply G_ld;eq_refl;(repeat first|exact In.here|apply In.there|apply In.skip);eq_refl)
|(apply G_rd;eq_refl;(first|(apply Rd.own;(repeat first|exact In.here|apply In.there|apply In.skip);infer_instance)|(apply Rd.old;(repeat first|exact In.here|apply In.there|apply In.skip);assumption)|(apply Rd.oldR;(repeat first|exact In.here|apply In.there|apply In.skip);assumption)|exact Rd.nil|assumption);(case ih => infer_instance);omega;omega;eq_refl)
|(apply G_cmpF;eq_refl;eq_refl;omega)
|(apply G_len;eq_refl)
|(apply G_ix;eq_refl;eq_refl;(first|(apply Rd.own;(repeat first|exact In.here|apply In.there|apply In.skip);infer_instance)|(apply Rd.old;(repeat first|exact In.here|apply In.there|apply In.skip);assumption)|(apply Rd.oldR;(repeat first|exact In.here|apply In.there|apply In.skip);assumption)|exact Rd.nil|assumption);(first|eq_refl|omega);omega;omega))
        exact ⟨(i + 1, _, _, _), (by repeat first | exact trivial | refine ⟨rfl, ?_⟩), (by repeat first | exact Wk.nil | exact Wk.refl | (apply Wk.cons; (focus ((repeat first | exact Rem.here | apply Rem.there | apply Rem.skip); done))) | apply Wk.nilv | apply Wk.last | apply Wk.drop), ⟨hlt, by rw [hsc, hF2]⟩, by simp only; omega⟩
    · obtain rfl : i = c.justice.length := by omega
      rw [List.take_length] at hFl
      repeat' (first
|(apply GC_seqK;intro K hK)
|(apply hK;clear hK K)
|(clear hK K;apply hK;clear hK K)
|(apply GC_block)
|(apply GC_region)
|(apply GL_nil)
|(apply thenG_normal)
|(apply thenG_exit)
|(apply blockG_hit)
|(apply GC_exit)
|(apply GC_if_false;eq_refl)
|(apply GL_on;eq_refl;eq_refl)
|(apply G_pv;eq_refl;first|exact trivial|omega)
|(apply G_field;eq_refl)
|(apply G_ld;eq_refl;(repeat first|exact In.here|apply In.there|apply In.skip);eq_refl)
|(apply G_cmpF;eq_refl;eq_refl;omega)
|(apply G_len;eq_refl))
      refine GC_loopK [2, 3, 6, 7] (fun t : Nat × List (Int × Int) × Option Addr × Nat => [(11, nu t.1)]) (fun t => [.box b7 77 [.slice A0 s.length k0, .bool (c.constraints.all (lv v)), .slice AB B.length kB, .slice t.2.2.1 t.2.1.length t.2.2.2], .vec spotc 2 130 t.2.2.1 t.2.2.2 t.2.1, .vec icell 1 3 AB kB B, .vec booc 1 4 A0 k0 s, .box b6 77 [.slice none 0 0, .bool false, .slice none 0 0, .slice none 0 0], .box b3 29 (ccells c h), .old w none_])
        (fun t => t.1 ≤ c.fairness.length ∧ t.2.1 = F ++ selF (-1) v c.fairness t.1) (fun t => c.fairness.length - t.1) (0, F, AF, kF) (by repeat first | exact Pick.nil | (apply Pick.cons; eq_refl)) (by repeat first | exact trivial | refine ⟨rfl, ?_⟩) (by repeat first | exact Wk.nil | exact Wk.refl | (apply Wk.cons; (focus ((repeat first | exact Rem.here | apply Rem.there | apply Rem.skip); done))) | apply Wk.nilv | apply Wk.last | apply Wk.drop) ⟨Nat.zero_le _, by simp [selF]⟩ ?_
      rintro ⟨j, F2, AF2, kF2⟩ ⟨hj, hF2⟩
      dsimp only at hj hF2 ⊢
      have hFl2 : F2.length ≤ F.length + j := by rw [hF2, List.length_append]; have := selF_len (-1) v c.fairness j; omega
      rcases Nat.lt_or_ge j c.fairness.length with hlt2 | hge2
      · have hl := R.fair (gt_mem (l := c.fairness) (i := (j : Int)) (by omega) (by omega))
        repeat' (first
|(apply G_call;eq_refl;eq_refl;(apply hlit;(repeat first|exact In.here|apply In.there|apply In.skip);assumption);rintro _ _ ⟨rfl, rfl⟩)
|(apply GC_seqK;intro K hK)
|(apply hK;clear hK K)
|(apply GC_block)
|(apply GC_region)
|(apply GL_nil)
|(apply thenG_normal)
|(apply blockG_normal)
|(apply GC_skip)
|(apply GC_if_true;eq_refl)
|(apply GC_if;eq_refl;all_goals intro _)
|(apply GL_on;eq_refl;eq_refl)
|(apply G_pv;eq_refl;first|exact trivial|omega)
|(apply G_field;eq_refl)
|(apply G_ld;eq_refl;(repeat first|exact In.here|apply In.there|apply In.skip);eq_refl)
|(apply G_rd;eq_refl;(first|(apply Rd.own;(repeat first|exact In.here|apply In.there|apply In.skip);infer_instance)|(apply Rd.old;(repeat first|exact In.here|apply In.there|apply In.skip);assumption)|(apply Rd.oldR;(repeat first|exact In.here|apply In.there|apply In.skip);assumption)|exact Rd.nil|assumption);(case ih => infer_instance);omega;omega;eq_refl)
|(apply G_cmpT;eq_refl;eq_refl;omega)
|(apply G_len;eq_refl)
|(apply G_ix;eq_refl;eq_refl;(first|(apply Rd.own;(repeat first|exact In.here|apply In.there|apply In.skip);infer_instance)|(apply Rd.old;(repeat first|exact In.here|apply In.there|apply In.skip);assumption)|(apply Rd.oldR;(repeat first|exact In.here|apply In.there|apply In.skip);assumption)|exact Rd.nil|assumption);(first|eq_refl|omega);omega;omega)
|(apply G_st;(first|exact wr_p|kernel_rfl);eq_refl;eq_refl;eq_refl;eq_refl;(repeat first|exact Upd.here|apply Upd.there|apply Upd.skip);(first|decide|exact Nat.le_of_ble_eq_true rfl))
|(apply G_app;(first|exact wr_p|kernel_rfl);eq_refl;eq_refl;(intro A c;(repeat first|exact Upd.here|apply Upd.there|apply Upd.skip));infer_instance;(repeat first|exact In.here|apply In.there|apply In.skip);(repeat first|exact Dec.nil|apply Dec.pr|apply Dec.tr|(apply Dec.c1;eq_refl)|(apply Dec.c2;eq_refl)|(apply Dec.c3;eq_refl));eq_refl;eq_refl;eq_refl;((try simp only [List.length_append, List.length_cons, List.length_nil]);omega);decide;intro _ _)
|(apply GX_pure;apply build130_0_1 <;> eq_refl)
|(apply G_new (fun b => .slice (some ⟨b, 0, none⟩) 1 1);eq_refl;(intro _;apply buildS75_1 <;> eq_refl);intro _))
        · exact ⟨(j + 1, _, _, _), (by repeat first | exact trivial | refine ⟨rfl, ?_⟩), (by repeat first | exact Wk.nil | exact Wk.refl | (apply Wk.cons; (focus ((repeat first | exact Rem.here | apply Rem.there | apply Rem.skip); done))) | apply Wk.nilv | apply Wk.last | apply Wk.drop), ⟨hlt2, by rw [selF_t (by assumption), hF2, List.append_assoc]⟩, by simp only; omega⟩
        · exact ⟨(j + 1, _, _, _), (by repeat first | exact trivial | refine ⟨rfl, ?_⟩), (by repeat first | exact Wk.nil | exact Wk.refl | (apply Wk.cons; (focus ((repeat first | exact Rem.here | apply Rem.there | apply Rem.skip); done))) | apply Wk.nilv | apply Wk.last | apply Wk.drop), ⟨hlt2, by rw [selF_f (by assumption), hF2]⟩, by simp only; omega⟩
      · obtain rfl : j = c.fairness.length := by omega
        repeat' (first
|(apply GC_seqK;intro K hK)
|(apply hK;clear hK K)
|(clear hK K;apply hK;clear hK K)
|(apply GC_region)
|(apply GL_nil)
|(apply thenG_normal)
|(apply thenG_exit)
|(apply blockG_hit)
|(apply GC_ret)
|(apply GC_exit)
|(apply GC_if_false;eq_refl)
|(apply retGC0;eq_refl;(repeat first|exact In.here|apply In.there|apply In.skip);eq_refl)
|(apply GL_on;eq_refl;eq_refl)
|(apply G_pv;eq_refl;first|exact trivial|omega)
|(apply G_field;eq_refl)
|(apply G_ld;eq_refl;(repeat first|exact In.here|apply In.there|apply In.skip);eq_refl)
|(apply G_ldW;eq_refl;(repeat first|exact In.here|apply In.there|apply In.skip);eq_refl)
|(apply G_cmpF;eq_refl;eq_refl;omega)
|(apply G_len;eq_refl)
|(apply G_stW;(first|exact wr_p|kernel_rfl);eq_refl;eq_refl;eq_refl;eq_refl;(repeat first|exact Upd.here|apply Upd.there|apply Upd.skip);eq_refl))
        subst hF2 hF hB
        exact ⟨_, (by repeat first | exact Wk.nil | exact Wk.refl | (apply Wk.cons; (focus ((repeat first | exact Rem.here | apply Rem.there | apply Rem.skip); done))) | apply Wk.nilv | apply Wk.last | apply Wk.drop), ((A0, k0), (AB, kB), (AF2, kF2)), rfl, rfl⟩
end SC
end Go.Proofs.YtbmngkdnebklpaaGreat
end
