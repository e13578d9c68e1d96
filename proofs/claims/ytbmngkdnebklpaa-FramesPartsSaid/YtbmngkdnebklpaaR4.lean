/- Texts of this seat, one behind the other: L4 L5 L6 L7 L8 L9 S2 S3 S4 S5 S6 S7 S8 S9 S10 S11 S12 S13 L10 S14 S15 S16 S17 S18 S19 S20 S21 S22 S23 S24 S27 S28 S29 S30 S31 S32 S33 S36 S34 S35 M1 M2 M3 S37 S38 S39 S40 O0 O9 O1 O2 O3 O4. -/
import Derived.Test.YtbmngkdnebklpaaR3
import Derived.ChangeArms
section
/- trestleref03: uses. -/
set_option linter.unusedVariables false
set_option linter.unusedSimpArgs false
namespace Go.Proofs.Ytbmngkdnebklpaa
namespace SC
open Go.Proofs
section
variable {P : Program} {ty t t0 : TypeId} {e : Env} {w : World} {x y : Operand} {d0 : TypeDesc} {sz by_ sz1 by1 : Nat} {z z1 : Value} {ag ag1 : Bool} {m b o : Nat} {i : Int} {k : IntKind}
theorem does_indexA [U : Ty P t (.array m t0) sz1 z1 by1 ag1] [T : Ty P t0 d0 sz z by_ ag] (h : ev e x = some (.pointer (some ⟨b, o, none⟩))) (h1 : ev e y = some (.int k i)) (h0 : 0 ≤ i) (h2 : i < m) : Does P (.indexAddr t x y) ty e w (.pointer (some ⟨b, o + i.toNat * sz, none⟩)) w := by
  intro ρ dst pos af g hρ
  simp [execOp, hρ _ _ h, hρ _ _ h1, Instr.indexAt, Instr.sureAddr, asIntOf, run_underlying U.und, h0, h2, T.size, add_at]
theorem O_indexA {n : Nat} {all : List Oper} {S : World → Prop} {K : Env → World → Prop} {j : Nat} {r : List (Nat × Bool)} {d : Option Tmp} [U : Ty P t (.array m t0) sz1 z1 by1 ag1] [T : Ty P t0 d0 sz z by_ ag] (h : ev e x = some (.pointer (some ⟨b, o, none⟩))) (h1 : ev e y = some (.int k i)) (h0 : 0 ≤ i) (h2 : i < m) (hS : S w)
    (hr : WS P n all S K r (push d (.pointer (some ⟨b, o + i.toNat * sz, none⟩)) e) w) : OX P n all S K j true r d (.indexAddr t x y) ty e w := O_quiet (fun _ _ => does_indexA h h1 h0 h2) hS hr
theorem X_indexA {n : Nat} {all : List Oper} {K : Env → World → Prop} {r : List Oper} {d : Option Tmp} [U : Ty P t (.array m t0) sz1 z1 by1 ag1] [T : Ty P t0 d0 sz z by_ ag] (h : ev e x = some (.pointer (some ⟨b, o, none⟩))) (h1 : ev e y = some (.int k i)) (h0 : 0 ≤ i) (h2 : i < m)
    (hr : WL P n all K r (push d (.pointer (some ⟨b, o + i.toNat * sz, none⟩)) e) w) : WX P n all K r d (.indexAddr t x y) ty e w := X_does (does_indexA h h1 h0 h2) hr
end
theorem goUse_ones {max : Int} {t : Tab} : ∀ (ls : List Int) (k : Nat), (goUse max t (ones ls) k).2 = useM max t ls
  | [], _ => rfl
  | x :: r, k => by
    have h1 : useM max t [x] = useOne max t x := by
      simp only [useM]; split
      · rfl
      · omega
    show (if useM max t [x] ≠ 0 then ((k : Int), useM max t [x]) else goUse max t (ones r) (k + 1)).2 = if useOne max t x ≠ 0 then useOne max t x else useM max t r
    rw [h1]
    split
    · rfl
    · exact goUse_ones r (k + 1)
attribute [local irreducible] WC WL WX WS WO OX Does DoesU Enters CV Pure thenQ blockQ retQ Wants retQC
set_option maxRecDepth 100000
theorem uses_cv' {w : World} {c : Circ} {h js : Hd} {t : Tab} {b n : Nat} (H : CirAt w c h js) (hs : c.Okay) (hm : 0 ≤ c.max ∧ c.max ≤ 16384) (hB : Blk w b 4 ((ut t).map Value.bool)) (hl : (t.length : Int) = c.max + 1) (hn : n = t.length) : CV Try.prog 79 [.agg (ccells c h).toArray, .slice (some ⟨b, 0, none⟩) n n] w fun v w' => v = .tuple #[nu (usesM c t).1, nu (usesM c t).2] ∧ Chg w w' none_ := by
  have hI0 : Blk (w.alloc (.cells (ccells c h).toArray 29)) w.heap.size 29 (ccells c h) := Blk.new w _ _
  have hC0 := Chg.alloc w (.cells (ccells c h).toArray 29) none_
  have hlens := hs.lens
  simp only [Circ.lens, List.mem_cons, List.not_mem_nil, or_false] at hlens
  have k2 := hlens _ (.inr (.inl rfl))
  have k3 := hlens _ (.inr (.inr (.inl rfl)))
  have k4 := hlens _ (.inr (.inr (.inr (.inl rfl))))
  have k5 := hlens _ (.inr (.inr (.inr (.inr (.inl rfl)))))
  have k6 := hlens _ (.inr (.inr (.inr (.inr (.inr (.inl rfl))))))
  have k7 := hlens _ (.inr (.inr (.inr (.inr (.inr (.inr (.inl rfl)))))))
  have k8 := hlens _ (.inr (.inr (.inr (.inr (.inr (.inr (.inr (.inl rfl))))))))
  clear hlens
  have hus : ∀ {W : World} {x : Int}, Chg w W none_ → CV Try.prog 102 [.agg (ccells c h).toArray, .slice (some ⟨b, 0, none⟩) n n, nu x] W fun v w' => v = nu (useOne c.max t x) ∧ Chg W w' none_ := fun {W x} hW => used_cv (h := h) (hB.chg hW id) hn hm hl
  have hua : ∀ {W : World} {A : Option Addr} {cp : Nat} {ls : List Int}, Chg w W none_ → RowA W icell 1 A ls → ls.length ≤ 9223372036854775807 → CV Try.prog 103 [.agg (ccells c h).toArray, .slice (some ⟨b, 0, none⟩) n n, .slice A ls.length cp] W fun v w' => v = .tuple #[nu (goUse c.max t (ones ls) 0).1, nu (useM c.max t ls)] ∧ Chg W w' none_ := fun {W A cp ls} hW R hl1 => by
    have := usedAll_cv (h := h) (cp := cp) (hB.chg hW id) hn hm hl R hl1
    rwa [goUse_ones] at this
  refine enter 128 [4, 5] Try.func79 rfl rfl rfl (by decide) rfl ?_
  repeat' (first
 | (apply WC_seqK; intro K hK)
 | (apply hK; clear hK)
 | (apply WC_block)
 | (apply WC_region)
 | (apply WL_nil)
 | (apply thenQ_normal)
 | (apply WL_on0; eq_refl)
 | (apply X_pv; eq_refl; first | exact trivial | omega)
 | (apply X_box; eq_refl))
  refine WC_loop (fun s : Nat => [(1, .slice (some ⟨b, 0, none⟩) n n), (2, pt w.heap.size), (6, nu s)])
    (fun s W => Chg w W none_ ∧ Blk W w.heap.size 29 (ccells c h) ∧ s ≤ c.latches.length ∧ goUse c.max t ((c.latches.map fun x => [x.2.1]).drop s) s = goUse c.max t (c.latches.map fun x => [x.2.1]) 0) (fun s => c.latches.length - s) 0 ⟨rfl, rfl, rfl, trivial⟩ ⟨hC0, hI0, Nat.zero_le _, rfl⟩ ?_
  clear hI0 hC0
  rintro k w1 ⟨hC1, hI1, hk, hgo⟩
  rcases Nat.lt_or_ge k c.latches.length with hlt | hge
  · obtain ⟨p, hp, hpc⟩ := H.latches k hlt
    rw [goUse_step (by simpa using hlt), List.getElem_map] at hgo
    generalize hx : c.latches[k] = x at *
    have e2 : useM c.max t [x.2.1] = useOne c.max t x.2.1 := by
      simp only [useM]; split
      · rfl
      · omega
    rw [e2] at hgo
    have e6 : (ccells c h)[0 + 2]? = some (.slice (some p) c.latches.length (h 2).2) := by rw [← hp]; rfl
    repeat' (first
 | (apply WC_seqK; intro K hK)
 | (apply hK; clear hK)
 | (apply WC_block)
 | (apply WC_region)
 | (apply WL_nil)
 | (apply thenQ_normal)
 | (apply WC_skip)
 | (apply WC_if_true; eq_refl)
 | (apply WL_on0; eq_refl)
 | (apply X_pv; eq_refl; first | exact trivial | omega)
 | (apply X_field; eq_refl)
 | (apply X_loadR; eq_refl; (first | assumption | (apply Blk.alloc; assumption) | apply Blk.new | apply Blk.newA | (apply Blk.alloc; first | apply Blk.newA | (apply Blk.alloc; first | assumption | apply Blk.newA))); eq_refl)
 | (apply X_cmpT; eq_refl; eq_refl; omega)
 | (apply X_len; eq_refl))
    refine WC_draws [(0, true), (1, true), (2, true), (3, true), (4, true), (5, true), (6, true), (7, true), (8, false), (9, true)] (fun W => Chg w W none_ ∧ Blk W w.heap.size 29 (ccells c h)) mixed (by kernel_rfl) (by kernel_rfl) ?_
    have hS : Chg w w1.drew none_ ∧ Blk w1.drew w.heap.size 29 (ccells c h) := ⟨hC1.dr, hI1⟩
    repeat' (first
 | (apply O_loadW; eq_refl; (exact fun _ h => h.2); eq_refl; assumption)
 | (apply O_loadR; eq_refl; (exact fun _ h => h.2); exact e6; assumption)
 | (apply O_loadC; eq_refl; (exact fun W h => cel_chg (hpc 1 _ rfl) h.1 id); assumption)
 | (apply O_fn; eq_refl; exact hus hS.1; rintro _ w3 ⟨rfl, hC3⟩; have hS3 : Chg w w3 none_ ∧ Blk w3 w.heap.size 29 (ccells c h) := ⟨hS.1.trans hC3 fun k hk hh => hh, hS.2.chg hC3 id⟩; refine ⟨fun _ => hS3, ?_⟩)
 | (apply WC_seqK; intro K hK)
 | (apply hK; clear hK)
 | (apply WC_region)
 | (apply WL_nil)
 | (apply thenQ_normal)
 | (apply thenQ_ret)
 | (apply blockQ_ret)
 | (apply blockQ_normal)
 | (apply WC_ret)
 | (apply WC_skip)
 | (apply WC_if_true; eq_refl)
 | (apply WC_if_false; eq_refl)
 | (apply ret2; eq_refl; eq_refl)
 | (apply WS_nil)
 | (apply WS_next; eq_refl)
 | (apply WO_on0; eq_refl)
 | (apply O_pv; eq_refl; (first | exact trivial | omega); (first | assumption | exact trivial))
 | (apply O_field; eq_refl; (first | assumption | exact trivial))
 | (apply O_indexP; eq_refl; eq_refl; omega; omega; (first | assumption | exact trivial))
 | (apply O_fieldP; eq_refl; (first | assumption | exact trivial))
 | (apply WL_on0; eq_refl)
 | (apply X_pv; eq_refl; first | exact trivial | omega)
 | (apply X_cmp; eq_refl; eq_refl; all_goals intro _))
    · rw [if_pos (by assumption)] at hgo
      have e : usesM c t = goUse c.max t (c.latches.map fun x => [x.2.1]) 0 := thenE_err (by rw [← hgo]; assumption)
      rw [e, ← hgo]
      exact ⟨rfl, hS3.1⟩
    · rw [if_neg (by assumption)] at hgo
      exact ⟨k + 1, ⟨rfl, rfl, rfl, trivial⟩, ⟨hS3.1, hS3.2, hlt, hgo⟩, by omega⟩
  rw [List.drop_eq_nil_of_le (by simpa using hge)] at hgo
  have E1 : usesM c t = restOf c.max t (thenE (goUse c.max t c.justice 0) (thenE (goUse c.max t (ones c.fairness) 0) (goUse c.max t (c.ands.map fun x => [x.2.1, x.2.2]) 0))) [c.outputs, c.bads, c.constraints] := thenE_ok (by rw [← hgo]; rfl)
  clear hgo
  repeat' (first
 | (apply X_loadR; eq_refl; exact hI1; eq_refl)
 | (apply WC_seqK; intro K hK)
 | (apply hK; clear hK)
 | (clear hK; apply hK; clear hK)
 | (apply WC_region)
 | (apply WL_nil)
 | (apply thenQ_normal)
 | (apply thenQ_exit)
 | (apply blockQ_hit)
 | (apply WC_exit)
 | (apply WC_if_false; eq_refl)
 | (apply WL_on0; eq_refl)
 | (apply X_pv; eq_refl; first | exact trivial | omega)
 | (apply X_field; eq_refl)
 | (apply X_cmpF; eq_refl; eq_refl; omega)
 | (apply X_len; eq_refl)
 | (apply X_alloc)
 | (apply X_pure; apply build147_0_1_2 <;> eq_refl))
  clear hge hk
  refine X_doesU (does_storeA (t1 := 147) (vs := [slc h 3 c.outputs.length, slc h 4 c.bads.length, slc h 5 c.constraints.length]) (o := 0) (b := w1.heap.size) (by eq_refl) (by eq_refl) (Blk.newA w1 _ _) rfl (by exact Nat.le_refl 3) (by simp [slc, Value.oneCell'])) ?_
  have hb1 : w.heap.size + 1 ≤ w1.heap.size := hI1.lt
  have hcc : Chg w1 ((w1.alloc (.cells #[.slice none 0 0, .slice none 0 0, .slice none 0 0] 147)).setRow w1.heap.size [slc h 3 c.outputs.length, slc h 4 c.bads.length, slc h 5 c.constraints.length].toArray) none_ := (Chg.alloc w1 _ none_).trans (Chg.setRow _ w1.heap.size _ (S := fun k => k = w1.heap.size) rfl) fun k hk h => by omega
  refine WL_turn (fun W => Chg w W none_ ∧ Blk W w.heap.size 29 (ccells c h) ∧ Blk W w1.heap.size 147 [slc h 3 c.outputs.length, slc h 4 c.bads.length, slc h 5 c.constraints.length]) ⟨hC1.trans hcc fun _ _ h => h, hI1.chg hcc id, (Blk.newA w1 _ 147).set [slc h 3 c.outputs.length, slc h 4 c.bads.length, slc h 5 c.constraints.length]⟩ ?_
  clear hcc hC1 hI1
  generalize w1.heap.size = b8 at *
  rintro w2 ⟨hC2, hI2, hA2⟩
  repeat' (first
 | (apply WC_seqK; intro K hK)
 | (apply hK; clear hK)
 | (apply WC_block)
 | (apply WC_region)
 | (apply WL_nil)
 | (apply thenQ_normal)
 | (apply WL_on0; eq_refl)
 | (apply X_pv; eq_refl; first | exact trivial | omega))
  refine WC_loop (fun s : Nat => [(1, .slice (some ⟨b, 0, none⟩) n n), (2, pt w.heap.size), (8, pt b8), (9, nu s)])
    (fun s W => Chg w W none_ ∧ Blk W w.heap.size 29 (ccells c h) ∧ Blk W b8 147 [slc h 3 c.outputs.length, slc h 4 c.bads.length, slc h 5 c.constraints.length] ∧ s ≤ 3 ∧ usesM c t = restOf c.max t (thenE (goUse c.max t c.justice 0) (thenE (goUse c.max t (ones c.fairness) 0) (goUse c.max t (c.ands.map fun x => [x.2.1, x.2.2]) 0))) ([c.outputs, c.bads, c.constraints].drop s)) (fun s => 3 - s) 0 ⟨rfl, rfl, rfl, rfl, trivial⟩ ⟨hC2, hI2, hA2, Nat.zero_le _, E1⟩ ?_
  clear hC2 hI2 hA2 E1
  rintro k w1 ⟨hC1, hI1, hA1, hk, hgo⟩
  rcases Nat.lt_or_ge k 3 with hlt | hge
  · obtain ⟨A, cp, ls, e7, hR, hls, hdr⟩ : ∃ A cp ls, [slc h 3 c.outputs.length, slc h 4 c.bads.length, slc h 5 c.constraints.length][0 + (k : Int).toNat * 1]? = some (.slice A (List.length ls) cp) ∧ RowA w icell 1 A ls ∧ ls.length ≤ 9223372036854775807 ∧ [c.outputs, c.bads, c.constraints].drop k = ls :: [c.outputs, c.bads, c.constraints].drop (k + 1) := by
      match k, hlt with
      | 0, _ => exact ⟨_, _, c.outputs, rfl, H.outputs, by omega, rfl⟩
      | 1, _ => exact ⟨_, _, c.bads, rfl, H.bads, by omega, rfl⟩
      | 2, _ => exact ⟨_, _, c.constraints, rfl, H.constraints, by omega, rfl⟩
    rw [hdr] at hgo
    repeat' (first
 | (apply WC_seqK; intro K hK)
 | (apply hK; clear hK)
 | (apply WC_block)
 | (apply WC_region)
 | (apply WL_nil)
 | (apply thenQ_normal)
 | (apply WC_skip)
 | (apply WC_if_true; eq_refl)
 | (apply WL_on0; eq_refl)
 | (apply X_pv; eq_refl; first | exact trivial | omega)
 | (apply X_cmpT; eq_refl; eq_refl; omega))
    refine WC_draws [(0, true), (1, true), (2, true), (3, true), (4, true), (5, false), (6, true), (7, true), (8, true), (9, true), (10, true)] (fun W => Chg w W none_ ∧ Blk W w.heap.size 29 (ccells c h) ∧ Blk W b8 147 [slc h 3 c.outputs.length, slc h 4 c.bads.length, slc h 5 c.constraints.length]) mixed (by kernel_rfl) (by kernel_rfl) ?_
    have hS : Chg w w1.drew none_ ∧ Blk w1.drew w.heap.size 29 (ccells c h) ∧ Blk w1.drew b8 147 [slc h 3 c.outputs.length, slc h 4 c.bads.length, slc h 5 c.constraints.length] := ⟨hC1.dr, hI1, hA1⟩
    repeat' (first
 | (apply O_loadW; eq_refl; (exact fun _ h => h.2.1); eq_refl; assumption)
 | (apply O_indexA; eq_refl; eq_refl; omega; omega; assumption)
 | (apply O_loadR; eq_refl; (exact fun _ h => h.2.2); exact e7; assumption)
 | (apply O_fn; eq_refl; (exact hua hS.1 (hR.chg hS.1) hls); rintro _ w3 ⟨rfl, hC3⟩; have hS3 : Chg w w3 none_ ∧ Blk w3 w.heap.size 29 (ccells c h) ∧ Blk w3 b8 147 [slc h 3 c.outputs.length, slc h 4 c.bads.length, slc h 5 c.constraints.length] := ⟨hS.1.trans hC3 fun k hk hh => hh, hS.2.1.chg hC3 id, hS.2.2.chg hC3 id⟩; refine ⟨fun _ => hS3, ?_⟩)
 | (apply WC_seqK; intro K hK)
 | (apply hK; clear hK)
 | (apply WC_region)
 | (apply WL_nil)
 | (apply thenQ_normal)
 | (apply thenQ_ret)
 | (apply blockQ_ret)
 | (apply blockQ_normal)
 | (apply WC_ret)
 | (apply WC_skip)
 | (apply WC_if_true; eq_refl)
 | (apply WC_if_false; eq_refl)
 | (apply ret2; eq_refl; eq_refl)
 | (apply WS_nil)
 | (apply WS_next; eq_refl)
 | (apply WO_on0; eq_refl)
 | (apply O_pv; eq_refl; (first | exact trivial | omega); (first | assumption | exact trivial))
 | (apply WL_on0; eq_refl)
 | (apply X_pv; eq_refl; first | exact trivial | omega)
 | (apply X_cmp; eq_refl; eq_refl; all_goals intro _))
    · have e : usesM c t = goUse c.max t (ones ls) 0 := hgo.trans (thenE_err (by rw [goUse_ones]; assumption))
      rw [e, goUse_ones]
      exact ⟨rfl, hS3.1⟩
    · exact ⟨k + 1, ⟨rfl, rfl, rfl, rfl, trivial⟩, ⟨hS3.1, hS3.2.1, hS3.2.2, hlt, hgo.trans (thenE_ok (by rw [goUse_ones]; omega))⟩, by omega⟩
  obtain rfl : k = 3 := by omega
  replace hgo : usesM c t = thenE (goUse c.max t c.justice 0) (thenE (goUse c.max t (ones c.fairness) 0) (goUse c.max t (c.ands.map fun x => [x.2.1, x.2.2]) 0)) := hgo
  repeat' (first
 | (apply WC_seqK; intro K hK)
 | (apply hK; clear hK)
 | (clear hK; apply hK; clear hK)
 | (apply WC_block)
 | (apply WC_region)
 | (apply WL_nil)
 | (apply thenQ_normal)
 | (apply thenQ_exit)
 | (apply blockQ_hit)
 | (apply WC_exit)
 | (apply WC_if_false; eq_refl)
 | (apply WL_on0; eq_refl)
 | (apply X_pv; eq_refl; first | exact trivial | omega)
 | (apply X_cmpF; eq_refl; eq_refl; omega))
  clear hge hk hA1
  have E2 := hgo
  clear hgo
  refine WC_loop (fun s : Nat => [(1, .slice (some ⟨b, 0, none⟩) n n), (2, pt w.heap.size), (12, nu s)])
    (fun s W => Chg w W none_ ∧ Blk W w.heap.size 29 (ccells c h) ∧ s ≤ c.justice.length ∧ goUse c.max t (c.justice.drop s) s = goUse c.max t c.justice 0) (fun s => c.justice.length - s) 0 ⟨rfl, rfl, rfl, trivial⟩ ⟨hC1, hI1, Nat.zero_le _, rfl⟩ ?_
  clear hI1 hC1
  rintro k w1 ⟨hC1, hI1, hk, hgo⟩
  rcases Nat.lt_or_ge k c.justice.length with hlt | hge
  · obtain ⟨p, hp, hpc⟩ := H.justice k hlt
    have hR := H.each k hlt
    have hls := hs.just _ (List.getElem_mem hlt)
    rw [goUse_step hlt] at hgo
    generalize hx : c.justice[k] = ls at *
    have e6 : (ccells c h)[0 + 6]? = some (.slice (some p) c.justice.length (h 6).2) := by rw [← hp]; rfl
    repeat' (first
 | (apply WC_seqK; intro K hK)
 | (apply hK; clear hK)
 | (apply WC_block)
 | (apply WC_region)
 | (apply WL_nil)
 | (apply thenQ_normal)
 | (apply WC_skip)
 | (apply WC_if_true; eq_refl)
 | (apply WL_on0; eq_refl)
 | (apply X_pv; eq_refl; first | exact trivial | omega)
 | (apply X_field; eq_refl)
 | (apply X_loadR; eq_refl; (first | assumption | (apply Blk.alloc; assumption) | apply Blk.new | apply Blk.newA | (apply Blk.alloc; first | apply Blk.newA | (apply Blk.alloc; first | assumption | apply Blk.newA))); eq_refl)
 | (apply X_cmpT; eq_refl; eq_refl; omega)
 | (apply X_len; eq_refl))
    refine WC_draws [(0, true), (1, true), (2, true), (3, true), (4, true), (5, true), (6, true), (7, false), (8, true), (9, true), (10, true), (11, true), (12, true)] (fun W => Chg w W none_ ∧ Blk W w.heap.size 29 (ccells c h)) mixed (by kernel_rfl) (by kernel_rfl) ?_
    have hS : Chg w w1.drew none_ ∧ Blk w1.drew w.heap.size 29 (ccells c h) := ⟨hC1.dr, hI1⟩
    repeat' (first
 | (apply O_loadW; eq_refl; (exact fun _ h => h.2); eq_refl; assumption)
 | (apply O_loadR; eq_refl; (exact fun _ h => h.2); exact e6; assumption)
 | (apply O_loadC; eq_refl; (exact fun W h => cel_chg hpc h.1 id); assumption)
 | (apply O_fn; eq_refl; (exact hua hS.1 (hR.chg hS.1) hls); rintro _ w3 ⟨rfl, hC3⟩; have hS3 : Chg w w3 none_ ∧ Blk w3 w.heap.size 29 (ccells c h) := ⟨hS.1.trans hC3 fun k hk hh => hh, hS.2.chg hC3 id⟩; refine ⟨fun _ => hS3, ?_⟩)
 | (apply WC_seqK; intro K hK)
 | (apply hK; clear hK)
 | (apply WC_region)
 | (apply WL_nil)
 | (apply thenQ_normal)
 | (apply thenQ_ret)
 | (apply blockQ_ret)
 | (apply blockQ_normal)
 | (apply WC_ret)
 | (apply WC_skip)
 | (apply WC_if_true; eq_refl)
 | (apply WC_if_false; eq_refl)
 | (apply ret2; eq_refl; eq_refl)
 | (apply WS_nil)
 | (apply WS_next; eq_refl)
 | (apply WO_on0; eq_refl)
 | (apply O_pv; eq_refl; (first | exact trivial | omega); (first | assumption | exact trivial))
 | (apply O_field; eq_refl; (first | assumption | exact trivial))
 | (apply O_indexP; eq_refl; eq_refl; omega; omega; (first | assumption | exact trivial))
 | (apply WL_on0; eq_refl)
 | (apply X_pv; eq_refl; first | exact trivial | omega)
 | (apply X_cmp; eq_refl; eq_refl; all_goals intro _))
    · rw [if_pos (by assumption)] at hgo
      have e : usesM c t = goUse c.max t c.justice 0 := E2.trans (thenE_err (by rw [← hgo]; assumption))
      rw [e, ← hgo]
      exact ⟨rfl, hS3.1⟩
    · rw [if_neg (by assumption)] at hgo
      exact ⟨k + 1, ⟨rfl, rfl, rfl, trivial⟩, ⟨hS3.1, hS3.2, hlt, hgo⟩, by omega⟩
  rw [List.drop_eq_nil_of_le hge] at hgo
  have E3 : usesM c t = thenE (goUse c.max t (ones c.fairness) 0) (goUse c.max t (c.ands.map fun x => [x.2.1, x.2.2]) 0) := E2.trans (thenE_ok (by rw [← hgo]; rfl))
  clear hgo E2
  repeat' (first
 | (apply X_fn; eq_refl; (exact hua hC1 (H.chg hC1).fairness (by omega)); rintro _ w3 ⟨rfl, hC3⟩)
 | (apply WC_seqK; intro K hK)
 | (apply hK; clear hK)
 | (clear hK; apply hK; clear hK)
 | (apply WC_block)
 | (apply WC_region)
 | (apply WL_nil)
 | (apply thenQ_normal)
 | (apply thenQ_ret)
 | (apply thenQ_exit)
 | (apply blockQ_hit)
 | (apply WC_ret)
 | (apply WC_exit)
 | (apply WC_skip)
 | (apply WC_if_true; eq_refl)
 | (apply WC_if_false; eq_refl)
 | (apply ret2; eq_refl; eq_refl)
 | (apply WL_on0; eq_refl)
 | (apply X_pv; eq_refl; first | exact trivial | omega)
 | (apply X_field; eq_refl)
 | (apply X_loadR; eq_refl; (first | assumption | (apply Blk.alloc; assumption) | apply Blk.new | apply Blk.newA | (apply Blk.alloc; first | apply Blk.newA | (apply Blk.alloc; first | assumption | apply Blk.newA))); eq_refl)
 | (apply X_loadW; eq_refl; (first | assumption | (apply Blk.alloc; assumption) | apply Blk.new | apply Blk.newA | (apply Blk.alloc; first | apply Blk.newA | (apply Blk.alloc; first | assumption | apply Blk.newA))); eq_refl)
 | (apply X_cmpF; eq_refl; eq_refl; omega)
 | (apply X_cmp; eq_refl; eq_refl; all_goals intro _)
 | (apply X_len; eq_refl))
  · have e : usesM c t = goUse c.max t (ones c.fairness) 0 := E3.trans (thenE_err (by rw [goUse_ones]; assumption))
    rw [e, goUse_ones]
    exact ⟨rfl, hC1.trans hC3 fun _ _ h => h⟩
  have E4 : usesM c t = goUse c.max t (c.ands.map fun x => [x.2.1, x.2.2]) 0 := E3.trans (thenE_ok (by rw [goUse_ones]; omega))
  clear E3 hge hk
  refine WC_loop (fun s : Nat => [(1, .slice (some ⟨b, 0, none⟩) n n), (2, pt w.heap.size), (17, nu s)])
    (fun s W => Chg w W none_ ∧ Blk W w.heap.size 29 (ccells c h) ∧ s ≤ c.ands.length ∧ goUse c.max t ((c.ands.map fun x => [x.2.1, x.2.2]).drop s) s = goUse c.max t (c.ands.map fun x => [x.2.1, x.2.2]) 0) (fun s => c.ands.length - s) 0 ⟨rfl, rfl, rfl, trivial⟩ ⟨hC1.trans hC3 fun _ _ h => h, hI1.chg hC3 id, Nat.zero_le _, rfl⟩ ?_
  clear hI1 hC1 hC3 w3
  rintro k w1 ⟨hC1, hI1, hk, hgo⟩
  rcases Nat.lt_or_ge k c.ands.length with hlt | hge
  · obtain ⟨p, hp, hpc⟩ := H.ands k hlt
    rw [goUse_step (by simpa using hlt), List.getElem_map] at hgo
    generalize hx : c.ands[k] = x at *
    have e6 : (ccells c h)[0 + 8]? = some (.slice (some p) c.ands.length (h 8).2) := by rw [← hp]; rfl
    repeat' (first
 | (apply WC_seqK; intro K hK)
 | (apply hK; clear hK)
 | (apply WC_block)
 | (apply WC_region)
 | (apply WL_nil)
 | (apply thenQ_normal)
 | (apply WC_skip)
 | (apply WC_if_true; eq_refl)
 | (apply WL_on0; eq_refl)
 | (apply X_pv; eq_refl; first | exact trivial | omega)
 | (apply X_field; eq_refl)
 | (apply X_loadR; eq_refl; (first | assumption | (apply Blk.alloc; assumption) | apply Blk.new | apply Blk.newA | (apply Blk.alloc; first | apply Blk.newA | (apply Blk.alloc; first | assumption | apply Blk.newA))); eq_refl)
 | (apply X_cmpT; eq_refl; eq_refl; omega)
 | (apply X_len; eq_refl))
    refine WC_draws [(0, true), (1, true), (2, true), (3, true), (4, true), (5, true), (6, true), (7, true), (8, true), (9, true), (10, true), (11, true), (12, true), (13, true), (14, false), (15, false), (16, true), (17, true), (18, true), (19, true), (20, true)] (fun W => Chg w W none_ ∧ Blk W w.heap.size 29 (ccells c h)) mixed (by kernel_rfl) (by kernel_rfl) ?_
    have hS : Chg w w1.drew none_ ∧ Blk w1.drew w.heap.size 29 (ccells c h) := ⟨hC1.dr, hI1⟩
    have hSa : Chg w (w1.drew.alloc (.cells #[nu x.2.1, nu x.2.2] 3)) none_ ∧ Blk (w1.drew.alloc (.cells #[nu x.2.1, nu x.2.2] 3)) w.heap.size 29 (ccells c h) := ⟨hS.1.al _, hS.2.alloc _⟩
    have hone := hua (cp := 2) (ls := [x.2.1, x.2.2]) hSa.1 (RowA.lit w1.drew [x.2.1, x.2.2]) (by simp)
    repeat' (first
 | (apply O_loadW; eq_refl; (exact fun _ h => h.2); eq_refl; assumption)
 | (apply O_loadR; eq_refl; (exact fun _ h => h.2); exact e6; assumption)
 | (apply O_loadC; eq_refl; (exact fun W h => cel_chg (hpc 1 _ rfl) h.1 id); assumption)
 | (apply O_loadC; eq_refl; (exact fun W h => cel_chg (hpc 2 _ rfl) h.1 id); assumption)
 | (apply O_does; (apply buildS22_2 <;> eq_refl); exact (fun _ => hSa))
 | (apply O_fn; eq_refl; exact hone; rintro _ w3 ⟨rfl, hC3⟩; have hS3 : Chg w w3 none_ ∧ Blk w3 w.heap.size 29 (ccells c h) := ⟨hSa.1.trans hC3 fun k hk hh => hh, hSa.2.chg hC3 id⟩; refine ⟨fun _ => hS3, ?_⟩)
 | (apply WC_seqK; intro K hK)
 | (apply hK; clear hK)
 | (apply WC_region)
 | (apply WL_nil)
 | (apply thenQ_normal)
 | (apply thenQ_ret)
 | (apply blockQ_ret)
 | (apply blockQ_normal)
 | (apply WC_ret)
 | (apply WC_skip)
 | (apply WC_if_true; eq_refl)
 | (apply WC_if_false; eq_refl)
 | (apply ret2; eq_refl; eq_refl)
 | (apply WS_nil)
 | (apply WS_next; eq_refl)
 | (apply WO_on0; eq_refl)
 | (apply O_pv; eq_refl; (first | exact trivial | omega); (first | assumption | exact trivial))
 | (apply O_field; eq_refl; (first | assumption | exact trivial))
 | (apply O_indexP; eq_refl; eq_refl; omega; omega; (first | assumption | exact trivial))
 | (apply O_fieldP; eq_refl; (first | assumption | exact trivial))
 | (apply WL_on0; eq_refl)
 | (apply X_pv; eq_refl; first | exact trivial | omega)
 | (apply X_cmp; eq_refl; eq_refl; all_goals intro _))
    · rw [if_pos (by assumption)] at hgo
      rw [E4, ← hgo]
      exact ⟨rfl, hS3.1⟩
    · rw [if_neg (by assumption)] at hgo
      exact ⟨k + 1, ⟨rfl, rfl, rfl, trivial⟩, ⟨hS3.1, hS3.2, hlt, hgo⟩, by omega⟩
  rw [List.drop_eq_nil_of_le (by simpa using hge)] at hgo
  repeat' (first
 | (apply WC_seqK; intro K hK)
 | (apply hK; clear hK)
 | (clear hK; apply hK; clear hK)
 | (apply WC_region)
 | (apply WL_nil)
 | (apply thenQ_normal)
 | (apply thenQ_exit)
 | (apply blockQ_hit)
 | (apply WC_ret)
 | (apply WC_exit)
 | (apply WC_if_false; eq_refl)
 | (apply ret2; eq_refl; eq_refl)
 | (apply WL_on0; eq_refl)
 | (apply X_pv; eq_refl; first | exact trivial | omega)
 | (apply X_field; eq_refl)
 | (apply X_loadR; eq_refl; (first | assumption | (apply Blk.alloc; assumption) | apply Blk.new | apply Blk.newA | (apply Blk.alloc; first | apply Blk.newA | (apply Blk.alloc; first | assumption | apply Blk.newA))); eq_refl)
 | (apply X_cmpF; eq_refl; eq_refl; omega)
 | (apply X_len; eq_refl))
  rw [E4, ← hgo]
  exact ⟨rfl, hC1⟩
end SC
end Go.Proofs.Ytbmngkdnebklpaa
end
section
/- trestleref03: gates. -/
set_option linter.unusedVariables false
set_option linter.unusedSimpArgs false
namespace Go.Proofs.Ytbmngkdnebklpaa
namespace SC
open Go.Proofs
/-- What a gate asks for: a literal's gate, or none. -/
theorem TabOk.lit {c : Circ} {t : Tab} (hT : TabOk c t) (hU : UseAll c t) {i : Int} (hi : rg c.ands.length i) {l : Int} (hl : l = (andAt c i).2.1 ∨ l = (andAt c i).2.2) :
    0 ≤ l ∧ l ≤ 2 * c.max + 1 ∧ ((kindAt t (l / 2) = 3 ∧ L (SC.gatesM c) (l / 2) = atOf t (l / 2) ∧ rg c.ands.length (atOf t (l / 2)) ∧ atOf t (l / 2) ∈ gateB t c i) ∨ (kindAt t (l / 2) ≠ 3 ∧ L (SC.gatesM c) (l / 2) = -1)) := by
  have hlt : i.toNat < c.ands.length := by unfold rg at hi; omega
  have e : andAt c i = c.ands[i.toNat] := by unfold andAt; simp [hlt]
  have hu := hU.ands _ (List.getElem_mem hlt)
  rw [← e] at hu
  have h0 : 0 ≤ l ∧ l ≤ 2 * c.max + 1 := by
    rcases hl with rfl | rfl
    · exact ⟨hu.1.1, hu.1.2.1⟩
    · exact ⟨hu.2.1, hu.2.2.1⟩
  refine ⟨h0.1, h0.2, ?_⟩
  have hr : rg (c.max + 1).toNat (l / 2) := by unfold rg; omega
  have hg := hT.gatesM hr
  by_cases hk : kindAt t (l / 2) = 3
  · rw [if_pos hk] at hg
    have hm : atOf t (l / 2) ∈ gateB t c i := (mem_gateB hi).2 ⟨l, hl, hk, rfl⟩
    exact .inl ⟨hk, hg, hT.below hU i hi _ hm, hm⟩
  · rw [if_neg hk] at hg
    exact .inr ⟨hk, hg⟩
attribute [local irreducible] WC WL WX WS WO OX Does DoesU Enters CV Pure thenQ blockQ retQ Wants retQC
set_option maxRecDepth 100000
theorem gates80_cv {w : World} {c : Circ} {h js : Hd} {t : Tab} (H : CirAt w c h js) (hT : TabOk c t) (hm : 0 ≤ c.max ∧ c.max ≤ 16384) (hn : c.ands.length ≤ 16384) : CV Try.prog 81 [.agg (ccells c h).toArray] w fun v w' => v = .slice (some ⟨w.heap.size + 1, 0, none⟩) (gatesM c).length (gatesM c).length ∧ Blk w' (w.heap.size + 1) 3 ((gatesM c).map nu) ∧ Chg w w' none_ := by
  obtain ⟨m, hm2⟩ : ∃ m : Nat, c.max + 1 = m := ⟨(c.max + 1).toNat, by omega⟩
  have hml : (c.max + 1).toNat = m := by omega
  have hI0 : Blk (w.alloc (.cells (ccells c h).toArray 29)) w.heap.size 29 (ccells c h) := Blk.new w _ _
  have hC0 := Chg.alloc w (.cells (ccells c h).toArray 29) none_
  have hz0 := sz_alloc w (.cells (ccells c h).toArray 29)
  refine enter 37 [2] Try.func81 rfl rfl rfl (by decide) rfl ?_
  repeat' (first
 | (apply WC_seqK; intro K hK)
 | (apply hK; clear hK)
 | (apply WC_region)
 | (apply WL_nil)
 | (apply thenQ_normal)
 | (apply WL_on0; eq_refl)
 | (apply X_pv; eq_refl; first | exact trivial | omega)
 | (apply X_field; eq_refl)
 | (apply X_loadR; eq_refl; (first | assumption | (apply Blk.alloc; assumption) | apply Blk.new | apply Blk.newA | (apply Blk.alloc; first | apply Blk.newA | (apply Blk.alloc; first | assumption | apply Blk.newA))); eq_refl)
 | (apply X_box; eq_refl))
  rw [hm2]
  repeat' (first
 | (apply X_make; eq_refl; omega; omega)
 | (apply WC_seqK; intro K hK)
 | (apply hK; clear hK)
 | (apply WC_block)
 | (apply WC_region)
 | (apply WL_nil)
 | (apply thenQ_normal)
 | (apply WL_on0; eq_refl)
 | (apply X_pv; eq_refl; first | exact trivial | omega))
  have e1 : (madeCells (Value.int .i64 0).cells (m * 1)).toList = (List.replicate m (0 : Int)).map nu := by rw [Nat.mul_one, show (Value.int .i64 0).cells = #[nu 0] from rfl, made_one, List.map_replicate]
  have b1 := Blk.newA (w.alloc (.cells (ccells c h).toArray 29)) (madeCells (Value.int .i64 0).cells (m * 1)) 3
  rw [e1, hz0] at b1
  refine WC_loop (fun s : Nat × List Int => [(1, pt w.heap.size), (3, .slice (some ⟨w.heap.size + 1, 0, none⟩) m m), (4, nu s.1)])
    (fun s W => Chg w W none_ ∧ Blk W w.heap.size 29 (ccells c h) ∧ Blk W (w.heap.size + 1) 3 (s.2.map nu) ∧ s.2.length = m ∧ s.2.take s.1 = List.replicate s.1 (-1) ∧ s.1 ≤ m) (fun s => m - s.1) (0, List.replicate m 0) ⟨rfl, congrArg (fun k => some (Value.slice (some ⟨k, 0, none⟩) m m)) hz0, rfl, trivial⟩ ⟨hC0.al _, hI0.alloc _, b1, by simp, by simp, Nat.zero_le _⟩ ?_
  clear b1 hI0 hC0 hz0 e1
  rintro ⟨i, l⟩ w1 ⟨hC1, hI1, hB1, hll, hlt', hi⟩
  simp only at hB1 hll hlt' hi
  rcases Nat.lt_or_ge i m with hlt | hge
  · repeat' (first
 | (apply WC_seqK; intro K hK)
 | (apply hK; clear hK)
 | (apply WC_block)
 | (apply WC_region)
 | (apply WL_nil)
 | (apply thenQ_normal)
 | (apply WC_skip)
 | (apply WC_if_true; eq_refl)
 | (apply WL_on0; eq_refl)
 | (apply X_pv; eq_refl; first | exact trivial | omega)
 | (apply X_field; eq_refl)
 | (apply X_loadR; eq_refl; (first | assumption | (apply Blk.alloc; assumption) | apply Blk.new | apply Blk.newA | (apply Blk.alloc; first | apply Blk.newA | (apply Blk.alloc; first | assumption | apply Blk.newA))); eq_refl)
 | (apply X_cmpT; eq_refl; eq_refl; omega)
 | (apply X_index; eq_refl; eq_refl; omega; omega))
    refine X_doesU (does_store1 (t1 := 3) (b := w.heap.size + 1) (o := 0 + (i : Int).toNat * 1) (v := nu (-1)) (by eq_refl) (by eq_refl) hB1 (by simp; omega) rfl rfl) ?_
    rw [set_nu, show 0 + (i : Int).toNat * 1 = i by omega]
    have hcc := Chg.setRow w1 (w.heap.size + 1) ((l.set i (-1)).map nu).toArray (S := fun k => k = w.heap.size + 1) rfl
    have hB2 := hB1.set ((l.set i (-1)).map nu)
    repeat' (first
 | (apply hK; clear hK)
 | (apply WC_region)
 | (apply WL_nil)
 | (apply thenQ_normal)
 | (apply blockQ_normal)
 | (apply WL_on0; eq_refl)
 | (apply X_pv; eq_refl; first | exact trivial | omega))
    exact ⟨(i + 1, l.set i (-1)), ⟨rfl, rfl, rfl, trivial⟩, ⟨hC1.trans hcc fun k hk hh => by omega, hI1.chg hcc (by omega), hB2, by simp [hll], by rw [take_set_succ _ _ _ (by omega), hlt', List.replicate_succ'], hlt⟩, by simp only; omega⟩
  obtain rfl : i = m := by omega
  rw [List.take_of_length_le (by omega)] at hlt'
  subst hlt'
  repeat' (first
 | (apply WC_seqK; intro K hK)
 | (apply hK; clear hK)
 | (clear hK; apply hK; clear hK)
 | (apply WC_block)
 | (apply WC_region)
 | (apply WL_nil)
 | (apply thenQ_normal)
 | (apply thenQ_exit)
 | (apply blockQ_hit)
 | (apply WC_exit)
 | (apply WC_if_false; eq_refl)
 | (apply WL_on0; eq_refl)
 | (apply X_pv; eq_refl; first | exact trivial | omega)
 | (apply X_field; eq_refl)
 | (apply X_loadR; eq_refl; (first | assumption | (apply Blk.alloc; assumption) | apply Blk.new | apply Blk.newA | (apply Blk.alloc; first | apply Blk.newA | (apply Blk.alloc; first | assumption | apply Blk.newA))); eq_refl)
 | (apply X_cmpF; eq_refl; eq_refl; omega))
  refine WC_loop (fun s : Nat × List Int => [(1, pt w.heap.size), (3, .slice (some ⟨w.heap.size + 1, 0, none⟩) i i), (5, nu s.1)])
    (fun s W => Chg w W none_ ∧ Blk W w.heap.size 29 (ccells c h) ∧ Blk W (w.heap.size + 1) 3 (s.2.map nu) ∧ s.2.length = i ∧ gatesL (c.ands.drop s.1) s.1 s.2 = gatesM c ∧ s.1 ≤ c.ands.length) (fun s => c.ands.length - s.1) (0, List.replicate i (-1)) ⟨rfl, rfl, rfl, trivial⟩ ⟨hC1, hI1, hB1, by simp, by unfold gatesM; rw [hml]; rfl, Nat.zero_le _⟩ ?_
  clear hI1 hB1 hC1 hll
  rintro ⟨k, l⟩ w1 ⟨hC1, hI1, hB1, hll, hgo, hk⟩
  simp only at hB1 hll hgo hk
  rcases Nat.lt_or_ge k c.ands.length with hlt | hge
  · obtain ⟨p, hp, hpc⟩ := (H.chg hC1).ands k hlt
    have hdb := (hT.gat k hlt).1
    rw [gatesL_step hlt] at hgo
    generalize hx : c.ands[k] = x at *
    have hx2 : 0 ≤ x.1 / 2 ∧ x.1 / 2 < i ∧ 0 ≤ x.1 ∧ x.1 ≤ 100000 := by unfold defBad at hdb; omega
    have e6 : (ccells c h)[0 + 8]? = some (.slice (some p) c.ands.length (h 8).2) := by rw [← hp]; rfl
    repeat' (first
 | (apply X_loadR; eq_refl; exact hI1; exact e6)
 | (apply X_loadC; eq_refl; exact (hpc 0 _ rfl))
 | (apply WC_seqK; intro K hK)
 | (apply hK; clear hK)
 | (apply WC_block)
 | (apply WC_region)
 | (apply WL_nil)
 | (apply thenQ_normal)
 | (apply WC_skip)
 | (apply WC_if_true; eq_refl)
 | (apply WL_on0; eq_refl)
 | (apply X_pv; eq_refl; first | exact trivial | omega)
 | (apply X_field; eq_refl)
 | (apply X_cmpT; eq_refl; eq_refl; omega)
 | (apply X_len; eq_refl)
 | (apply X_index; eq_refl; eq_refl; omega; omega)
 | (apply X_indexP; eq_refl; eq_refl; omega; omega)
 | (apply X_fieldP; eq_refl))
    refine X_doesU (does_store1 (t1 := 3) (b := w.heap.size + 1) (o := 0 + (x.1 / 2).toNat * 1) (v := nu k) (by eq_refl) (by eq_refl) hB1 (by simp; omega) rfl rfl) ?_
    rw [set_nu, show 0 + (x.1 / 2).toNat * 1 = (x.1 / 2).toNat by omega]
    have hcc := Chg.setRow w1 (w.heap.size + 1) ((l.set (x.1 / 2).toNat k).map nu).toArray (S := fun k => k = w.heap.size + 1) rfl
    have hB3 := hB1.set ((l.set (x.1 / 2).toNat k).map nu)
    repeat' (first
 | (apply hK; clear hK)
 | (apply WC_region)
 | (apply WL_nil)
 | (apply thenQ_normal)
 | (apply blockQ_normal)
 | (apply WL_on0; eq_refl)
 | (apply X_pv; eq_refl; first | exact trivial | omega))
    exact ⟨(k + 1, l.set (x.1 / 2).toNat k), ⟨rfl, rfl, rfl, trivial⟩, ⟨hC1.trans hcc fun k hk hh => by omega, hI1.chg hcc (by omega), hB3, by simp [hll], hgo, hlt⟩, by simp only; omega⟩
  obtain rfl : k = c.ands.length := by omega
  rw [List.drop_of_length_le (Nat.le_refl _)] at hgo
  have hgo : l = gatesM c := hgo
  subst hgo
  have hgl : (gatesM c).length = i := hll
  repeat' (first
 | (apply WC_seqK; intro K hK)
 | (apply hK; clear hK)
 | (clear hK; apply hK; clear hK)
 | (apply WC_region)
 | (apply WL_nil)
 | (apply thenQ_normal)
 | (apply thenQ_exit)
 | (apply blockQ_hit)
 | (apply WC_ret)
 | (apply WC_exit)
 | (apply WC_if_false; eq_refl)
 | (apply ret1; eq_refl)
 | (apply WL_on0; eq_refl)
 | (apply X_pv; eq_refl; first | exact trivial | omega)
 | (apply X_field; eq_refl)
 | (apply X_loadR; eq_refl; (first | assumption | (apply Blk.alloc; assumption) | apply Blk.new | apply Blk.newA | (apply Blk.alloc; first | apply Blk.newA | (apply Blk.alloc; first | assumption | apply Blk.newA))); eq_refl)
 | (apply X_cmpF; eq_refl; eq_refl; omega)
 | (apply X_len; eq_refl))
  refine ⟨?_, hB1, hC1⟩
  rw [hgl]
end SC
end Go.Proofs.Ytbmngkdnebklpaa
end
section
/- trestleref03: told. -/
set_option linter.unusedVariables false
set_option linter.unusedSimpArgs false
namespace Go.Proofs.Ytbmngkdnebklpaa
namespace SC
open Go.Proofs
/-- What told keeps in memory: the gates of the variables, which are told, and their row. -/
structure TolSt (w W : World) (c : Circ) (h : Hd) (t : Tab) (g D : Nat) (out : List Int) (dn : List Bool) (vo : Value) : Prop where
  chg : Chg w W none_
  box : Blk W w.heap.size 29 (ccells c h)
  gate : Blk W g 3 ((gatesM c).map nu)
  done : Blk W D 4 (dn.map Value.bool)
  row : W.ownsRow (D + 1) 3 1 vo out.length (out.map nu)
  len : dn.length = c.ands.length
  told : Told c.ands.length (gateB t c) out
  mem : ∀ y, rg c.ands.length y → (Sn dn y = true ↔ y ∈ out)
theorem TolSt.same {w W W' : World} {c : Circ} {h : Hd} {t : Tab} {g D : Nat} {out : List Int} {dn : List Bool} {vo : Value} (S : TolSt w W c h t g D out dn vo) (hc : Chg W W' none_) : TolSt w W' c h t g D out dn vo :=
  ⟨S.chg.trans hc fun _ _ h => h, S.box.chg hc id, S.gate.chg hc id, S.done.chg hc id, own_chg S.row hc fun _ _ => id, S.len, S.told, S.mem⟩
section
variable {P : Program} {n : Nat} {all rest : List Oper} {K : Env → World → Prop} {e : Env} {w : World}
/-- A guard whose slot was left out: not carried out. -/
theorem WL_noU {j : Nat} {b : Bool} {d' : Nat} {d : Option Tmp} {op : Op} {ty : TypeId} {pos : String} {af : Array Edge} (h1 : gslot all j = some d') (h2 : look e d' = some undef) (hd : slotOk n d = true) (hr : WL P n all K rest (push d undef e) w) : WL P n all K (⟨d, op, ty, pos, af, some (j, b)⟩ :: rest) e w := by
  intro a Q ha hQ
  have hw : Region.wanted ⟨d, op, ty, pos, af, some (j, b)⟩ (yielded all.toArray a.tmps) = false := by
    unfold Region.wanted
    have ht := ha.tmps d' _ h2
    have hy : yielded all.toArray a.tmps j = none := by
      unfold yielded
      unfold gslot at h1
      rw [nth_eq] at h1
      have : ((all.toArray[j]?).bind (·.dst)) = some d' := by simpa using h1
      rw [this]
      simp [ht, undef]
    simp only [hy]
    rfl
  unfold wpList
  rw [if_neg (by simp [hw])]
  exact hr _ Q (ha.put d undef hd) hQ
end
attribute [local irreducible] WC WL WX WS WO OX Does DoesU Enters CV Pure thenQ blockQ retQ Wants retQC
set_option maxRecDepth 100000
theorem told_cv {w : World} {c : Circ} {h js : Hd} {t : Tab} (H : CirAt w c h js) (hT : TabOk c t) (hU : UseAll c t) (hm : 0 ≤ c.max ∧ c.max ≤ 16384) (hn : c.ands.length ≤ 16384) : CV Try.prog 80 [.agg (ccells c h).toArray] w fun v w' => Chg w w' none_ ∧ ∃ out, All c.ands.length (gateB t c) out ∧ w'.ownsRow w.heap.size 3 1 v out.length (out.map nu) := by
  have hI0 : Blk (w.alloc (.cells (ccells c h).toArray 29)) w.heap.size 29 (ccells c h) := Blk.new w _ _
  have hC0 := Chg.alloc w (.cells (ccells c h).toArray 29) none_
  have hgl := gatesM_len c
  have hga := gates80_cv (H.chg hC0) hT hm hn
  refine enter 74 [2] Try.func80 rfl rfl rfl (by decide) rfl ?_
  repeat' (first
 | (apply X_fn; eq_refl; exact hga; rintro _ w1 ⟨rfl, hG1, hC1⟩; have hI1 := hI0.chg hC1 id)
 | (apply X_make; eq_refl; omega; omega)
 | (apply WC_seqK; intro K hK)
 | (apply hK; clear hK)
 | (apply WC_block)
 | (apply WC_region)
 | (apply WL_nil)
 | (apply thenQ_normal)
 | (apply WL_on0; eq_refl)
 | (apply X_pv; eq_refl; first | exact trivial | omega)
 | (apply X_field; eq_refl)
 | (apply X_loadR; eq_refl; (first | assumption | (apply Blk.alloc; assumption) | apply Blk.new | apply Blk.newA | (apply Blk.alloc; first | apply Blk.newA | (apply Blk.alloc; first | assumption | apply Blk.newA))); eq_refl)
 | (apply X_loadW; eq_refl; (first | assumption | (apply Blk.alloc; assumption) | apply Blk.new | apply Blk.newA | (apply Blk.alloc; first | apply Blk.newA | (apply Blk.alloc; first | assumption | apply Blk.newA))); eq_refl)
 | (apply X_len; eq_refl)
 | (apply X_box; eq_refl))
  have hC1' := hC0.trans hC1 fun _ _ h => h
  have hg0 := hG1.lt
  have hg1 : w.heap.size < (w.alloc (.cells (ccells c h).toArray 29)).heap.size + 1 := by simp; omega
  generalize (w.alloc (.cells (ccells c h).toArray 29)).heap.size + 1 = g at *
  have hdm : Blk (w1.alloc (.cells (madeCells (Value.bool false).cells (c.ands.length * 1)) 4)) w1.heap.size 4 ((List.replicate c.ands.length false).map Value.bool) := by
    have e1 : (madeCells (Value.bool false).cells (c.ands.length * 1)).toList = (List.replicate c.ands.length false).map Value.bool := by rw [Nat.mul_one, show (Value.bool false).cells = #[Value.bool false] from rfl, made_one, List.map_replicate]
    have := Blk.newA w1 (madeCells (Value.bool false).cells (c.ands.length * 1)) 4
    rwa [e1] at this
  have hS0 : TolSt w (w1.alloc (.cells (madeCells (Value.bool false).cells (c.ands.length * 1)) 4)) c h t g w1.heap.size [] (List.replicate c.ands.length false) (.slice none 0 0) :=
    ⟨hC1'.al _, hI1.alloc _, hG1.alloc _, hdm, World.ownsRow_nil _ _ _ _, by simp, .nil, fun y _ => by rw [Sn_false]; simp⟩
  generalize w1.alloc (.cells (madeCells (Value.bool false).cells (c.ands.length * 1)) 4) = w2 at *
  generalize w1.heap.size = D at *
  refine WC_loop (fun s : List Int × List Bool × Value × Bool => [(1, pt w.heap.size), (3, .slice (some ⟨g, 0, none⟩) (gatesM c).length (gatesM c).length), (4, .slice (some ⟨D, 0, none⟩) c.ands.length c.ands.length), (5, s.2.2.1), (6, .bool s.2.2.2)])
    (fun s W => TolSt w W c h t g D s.1 s.2.1 s.2.2.1 ∧ (s.2.2.2 = false → All c.ands.length (gateB t c) s.1)) (fun s => 2 * (c.ands.length - s.1.length) + if s.2.2.2 then 1 else 0)
    ([], List.replicate c.ands.length false, .slice none 0 0, true) ⟨rfl, rfl, rfl, rfl, rfl, trivial⟩ ⟨hS0, fun h => (by cases h)⟩ ?_
  clear hS0 hdm hG1 hC1 hI1 hga hI0 hC0 hC1'
  rintro ⟨out, dn, vo, again⟩ w3 ⟨hS3, hal⟩
  simp only at hS3 hal
  cases again with
  | false =>
    repeat' (first
 | (apply WC_seqK; intro K hK)
 | (apply hK; clear hK)
 | (clear hK; apply hK; clear hK)
 | (apply WC_region)
 | (apply WL_nil)
 | (apply thenQ_normal)
 | (apply thenQ_exit)
 | (apply blockQ_hit)
 | (apply WC_ret)
 | (apply WC_exit)
 | (apply WC_if_false; eq_refl)
 | (apply ret1; eq_refl)
 | (apply WL_on0; eq_refl)
 | (apply X_pv; eq_refl; first | exact trivial | omega))
    exact ⟨hS3.chg, out, hal rfl, own_mono hS3.row (by omega)⟩
  | true =>
    repeat' (first
 | (apply WC_seqK; intro K hK)
 | (apply hK; clear hK)
 | (apply WC_block)
 | (apply WC_region)
 | (apply WL_nil)
 | (apply thenQ_normal)
 | (apply WC_skip)
 | (apply WC_if_true; eq_refl)
 | (apply WL_on0; eq_refl)
 | (apply X_pv; eq_refl; first | exact trivial | omega))
    refine WC_loop (fun i : Nat => [(1, pt w.heap.size), (3, .slice (some ⟨g, 0, none⟩) (gatesM c).length (gatesM c).length), (4, .slice (some ⟨D, 0, none⟩) c.ands.length c.ands.length), (5, vo), (6, .bool false), (7, nu i)])
      (fun i W => TolSt w W c h t g D out dn vo ∧ i ≤ c.ands.length ∧ ∀ y, y < (i : Int) → ¬ CanTell c.ands.length (gateB t c) out y) (fun i => c.ands.length - i)
      0 ⟨rfl, rfl, rfl, rfl, rfl, rfl, trivial⟩ ⟨hS3, Nat.zero_le _, fun y hy hc => by have := hc.rg; unfold rg at this; omega⟩ ?_
    clear hS3 hal w3
    rintro i w3 ⟨hS3, hi, hno⟩
    have hbox := hS3.box
    rcases Nat.lt_or_ge i c.ands.length with hlt | hge
    · have hri : rg c.ands.length (i : Int) := ⟨by omega, by omega⟩
      have hdone := hS3.done
      have hcell := Sn_cell (sn := dn) (z := i) (by rw [hS3.len]; exact hri)
      have hmem := hS3.mem i hri
      cases hsi : Sn dn i with
      | true =>
        rw [hsi] at hcell
        repeat' (first
 | (apply X_loadR; eq_refl; exact hdone; exact hcell)
 | (apply WC_seqK; intro K hK)
 | (apply hK; clear hK)
 | (clear hK; apply hK; clear hK)
 | (apply WC_block)
 | (apply WC_region)
 | (apply WL_nil)
 | (apply thenQ_normal)
 | (apply thenQ_exit)
 | (apply blockQ_hit)
 | (apply WC_exit)
 | (apply WC_skip)
 | (apply WC_if_true; eq_refl)
 | (apply WL_on0; eq_refl)
 | (apply X_pv; eq_refl; first | exact trivial | omega)
 | (apply X_field; eq_refl)
 | (apply X_loadR; eq_refl; (first | assumption | (apply Blk.alloc; assumption) | apply Blk.new | apply Blk.newA | (apply Blk.alloc; first | apply Blk.newA | (apply Blk.alloc; first | assumption | apply Blk.newA))); eq_refl)
 | (apply X_cmpT; eq_refl; eq_refl; omega)
 | (apply X_len; eq_refl)
 | (apply X_index; eq_refl; eq_refl; omega; omega))
        refine ⟨i + 1, ⟨rfl, rfl, rfl, rfl, rfl, rfl, trivial⟩, ⟨hS3, hlt, fun y hy hc => ?_⟩, by omega⟩
        rcases Int.lt_or_le y (i : Int) with h1 | h1
        · exact hno y h1 hc
        · have : y = i := by omega
          subst this
          exact hc.new (hmem.1 hsi)
      | false =>
        rw [hsi] at hcell hmem
        have hnew : (i : Int) ∉ out := fun hh => by have := hmem.2 hh; cases this
        obtain ⟨p, hp, hpc⟩ := H.ands i hlt
        have hle := hT.lit hU hri (.inl rfl)
        have hri' := hT.lit hU hri (.inr rfl)
        have hx : andAt c i = c.ands[i] := by unfold andAt; simp [hlt]
        rw [hx] at hle hri'
        generalize hxx : c.ands[i] = x at *
        have hmB : ∀ z, z ∈ gateB t c i ↔ (kindAt t (x.2.1 / 2) = 3 ∧ atOf t (x.2.1 / 2) = z) ∨ (kindAt t (x.2.2 / 2) = 3 ∧ atOf t (x.2.2 / 2) = z) := fun z => by
          rw [mem_gateB hri, hx]
          constructor
          · rintro ⟨l, rfl | rfl, h1, h2⟩
            · exact .inl ⟨h1, h2⟩
            · exact .inr ⟨h1, h2⟩
          · rintro (⟨h1, h2⟩ | ⟨h1, h2⟩)
            · exact ⟨_, .inl rfl, h1, h2⟩
            · exact ⟨_, .inr rfl, h1, h2⟩
        obtain ⟨hl0, hl1, hl2⟩ := hle
        obtain ⟨hr0, hr1, hr2⟩ := hri'
        have hcl := L_cell (ls := gatesM c) (y := x.2.1 / 2) (by unfold rg; rw [hgl]; omega)
        have hcr := L_cell (ls := gatesM c) (y := x.2.2 / 2) (by unfold rg; rw [hgl]; omega)
        have ha : (L (gatesM c) (x.2.1 / 2) < 0 ∧ kindAt t (x.2.1 / 2) ≠ 3) ∨ (rg c.ands.length (L (gatesM c) (x.2.1 / 2)) ∧ kindAt t (x.2.1 / 2) = 3 ∧ atOf t (x.2.1 / 2) = L (gatesM c) (x.2.1 / 2)) := by
          rcases hl2 with ⟨h1, h2, h3, _⟩ | ⟨h1, h2⟩
          · exact .inr ⟨by rw [h2]; exact h3, h1, h2.symm⟩
          · exact .inl ⟨by rw [h2]; decide, h1⟩
        have hb : (L (gatesM c) (x.2.2 / 2) < 0 ∧ kindAt t (x.2.2 / 2) ≠ 3) ∨ (rg c.ands.length (L (gatesM c) (x.2.2 / 2)) ∧ kindAt t (x.2.2 / 2) = 3 ∧ atOf t (x.2.2 / 2) = L (gatesM c) (x.2.2 / 2)) := by
          rcases hr2 with ⟨h1, h2, h3, _⟩ | ⟨h1, h2⟩
          · exact .inr ⟨by rw [h2]; exact h3, h1, h2.symm⟩
          · exact .inl ⟨by rw [h2]; decide, h1⟩
        clear hl2 hr2
        generalize L (gatesM c) (x.2.1 / 2) = a at *
        generalize L (gatesM c) (x.2.2 / 2) = bb at *
        have e6 : (ccells c h)[0 + 8]? = some (.slice (some p) c.ands.length (h 8).2) := by rw [← hp]; rfl
        have hsl := hS3.len
        have hca : rg c.ands.length a → Sn dn a = true → (dn.map Value.bool)[0 + a.toNat * 1]? = some (.bool true) := fun h1 h2 => by rw [Sn_cell (by rw [hsl]; exact h1), h2]
        have hcb : rg c.ands.length bb → Sn dn bb = true → (dn.map Value.bool)[0 + bb.toNat * 1]? = some (.bool true) := fun h1 h2 => by rw [Sn_cell (by rw [hsl]; exact h1), h2]
        have hfa : rg c.ands.length a → Sn dn a = false → (dn.map Value.bool)[0 + a.toNat * 1]? = some (.bool false) := fun h1 h2 => by rw [Sn_cell (by rw [hsl]; exact h1), h2]
        have hfb : rg c.ands.length bb → Sn dn bb = false → (dn.map Value.bool)[0 + bb.toNat * 1]? = some (.bool false) := fun h1 h2 => by rw [Sn_cell (by rw [hsl]; exact h1), h2]
        have hra : rg c.ands.length a → 0 ≤ a ∧ a < c.ands.length := id
        have hrb : rg c.ands.length bb → 0 ≤ bb ∧ bb < c.ands.length := id
        repeat' (first
 | (apply X_loadR; eq_refl; exact hdone; exact hcell)
 | (apply WC_seqK; intro K hK)
 | (apply hK; clear hK)
 | (apply WC_block)
 | (apply WC_region)
 | (apply WL_nil)
 | (apply thenQ_normal)
 | (apply WC_skip)
 | (apply WC_if_true; eq_refl)
 | (apply WC_if_false; eq_refl)
 | (apply WL_on0; eq_refl)
 | (apply X_pv; eq_refl; first | exact trivial | omega)
 | (apply X_field; eq_refl)
 | (apply X_loadR; eq_refl; (first | assumption | (apply Blk.alloc; assumption) | apply Blk.new | apply Blk.newA | (apply Blk.alloc; first | apply Blk.newA | (apply Blk.alloc; first | assumption | apply Blk.newA))); eq_refl)
 | (apply X_cmpT; eq_refl; eq_refl; omega)
 | (apply X_len; eq_refl)
 | (apply X_index; eq_refl; eq_refl; omega; omega))
        refine WC_draws [(0, true), (1, true), (2, true), (3, true), (4, true), (5, true), (6, true), (7, true), (8, true), (9, true), (10, true), (11, true), (12, true), (13, true), (14, true), (15, true), (16, true), (17, true), (18, true), (19, true), (20, true), (21, true)] (fun W => TolSt w W c h t g D out dn vo) mixed (by kernel_rfl) (by kernel_rfl) ?_
        have hS := hS3.same (Chg.refl w3 none_).dr
        have hdone' := hS.done
        by_cases hcan : CanTell c.ands.length (gateB t c) out i
        · have ha' : a < 0 ∨ (rg c.ands.length a ∧ Sn dn a = true ∧ 0 ≤ a ∧ a < c.ands.length) := by
            rcases ha with ⟨h1, _⟩ | ⟨h1, h2, h3⟩
            · exact .inl h1
            · exact .inr ⟨h1, (hS.mem a h1).2 (hcan.low a ((hmB a).2 (.inl ⟨h2, h3⟩))), hra h1⟩
          have hb' : bb < 0 ∨ (rg c.ands.length bb ∧ Sn dn bb = true ∧ 0 ≤ bb ∧ bb < c.ands.length) := by
            rcases hb with ⟨h1, _⟩ | ⟨h1, h2, h3⟩
            · exact .inl h1
            · exact .inr ⟨h1, (hS.mem bb h1).2 (hcan.low bb ((hmB bb).2 (.inr ⟨h2, h3⟩))), hrb h1⟩
          clear ha hb hmB hfa hfb hra hrb
          have htell : Told c.ands.length (gateB t c) (out ++ [(i : Int)]) := .snoc hS.told hcan fun y hy => by
            rcases Int.lt_or_le y (i : Int) with h1 | h1
            · exact absurd hy (hno y h1)
            · exact h1
          have hsize := htell.size
          simp only [List.length_append, List.length_singleton] at hsize
          rcases ha' with ha' | ⟨ha', hta, ha0, ha1⟩ <;> rcases hb' with hb' | ⟨hb', htb, hb0, hb1⟩
          all_goals
            repeat' (first
 | (apply O_loadR; eq_refl; (exact fun _ h => h.box); exact e6; assumption)
 | (apply O_loadC; eq_refl; (exact fun W h => cel_chg (hpc 1 _ rfl) h.chg id); assumption)
 | (apply O_loadC; eq_refl; (exact fun W h => cel_chg (hpc 2 _ rfl) h.chg id); assumption)
 | (apply O_loadR; eq_refl; (exact fun _ h => h.gate); exact hcl; assumption)
 | (apply O_loadR; eq_refl; (exact fun _ h => h.gate); exact hcr; assumption)
 | (apply X_loadR; eq_refl; exact hdone'; (exact hca (by assumption) (by assumption)))
 | (apply X_loadR; eq_refl; exact hdone'; (exact hcb (by assumption) (by assumption)))
 | (apply WC_seqK; intro K hK)
 | (apply hK; clear hK)
 | (apply WC_region)
 | (apply WL_nil)
 | (apply thenQ_normal)
 | (apply WC_if_true; eq_refl)
 | (apply WS_nil)
 | (apply WS_next; eq_refl)
 | (apply WO_on0; eq_refl)
 | (apply O_pv; eq_refl; (first | exact trivial | omega); (first | assumption | exact trivial))
 | (apply O_field; eq_refl; (first | assumption | exact trivial))
 | (apply O_index; eq_refl; eq_refl; omega; omega; (first | assumption | exact trivial))
 | (apply O_indexP; eq_refl; eq_refl; omega; omega; (first | assumption | exact trivial))
 | (apply O_fieldP; eq_refl; (first | assumption | exact trivial))
 | (apply WL_on0; eq_refl)
 | (apply WL_onG; eq_refl; eq_refl; eq_refl; eq_refl)
 | (apply WL_noG; eq_refl; eq_refl; eq_refl; eq_refl)
 | (apply X_pv; eq_refl; first | exact trivial | omega)
 | (apply X_cmpT; eq_refl; eq_refl; omega)
 | (apply X_cmpF; eq_refl; eq_refl; omega)
 | (apply X_index; eq_refl; eq_refl; omega; omega))
          all_goals
            refine X_doesU (does_store1 (t1 := 4) (b := D) (o := 0 + (i : Int).toNat * 1) (v := .bool true) (by eq_refl) (by eq_refl) hdone' (by simp; omega) rfl rfl) ?_
            have hcc : Chg w3.drew (w3.drew.setRow D ((dn.map Value.bool).set (0 + (i : Int).toNat * 1) (.bool true)).toArray) (fun k => k = D) := Chg.setRow _ _ _ rfl
            have hD2 := hdone'.set ((dn.map Value.bool).set (0 + (i : Int).toNat * 1) (.bool true))
            rw [show (dn.map Value.bool).set (0 + (i : Int).toNat * 1) (.bool true) = (dn.set i true).map Value.bool by rw [Nat.zero_add, Nat.mul_one, List.map_set, Int.toNat_natCast]] at hcc hD2 ⊢
            have hrow2 := own_chg hS.row hcc fun k hk hh => by have := (hS.row.lt k hk).1; omega
            have hbox2 := hS.box.chg hcc (by omega)
            have hgate2 := hS.gate.chg hcc (by omega)
            have hC2 := hS.chg.trans hcc fun k hk hh => by omega
            generalize w3.drew.setRow D ((dn.set i true).map Value.bool).toArray = w4 at *
            repeat' (first
 | (apply WC_seqK; intro K hK)
 | (apply hK; clear hK)
 | (apply WC_region)
 | (apply WL_nil)
 | (apply thenQ_normal)
 | (apply WL_on0; eq_refl)
 | (apply X_pv; eq_refl; first | exact trivial | omega)
 | (apply X_does; apply buildS22_1 <;> eq_refl))
          all_goals
            refine X_append (D + 1) (by eq_refl) (by eq_refl) (hrow2.alloc _) (Blk.newA w4 _ _) rfl rfl (by decide) (by simp [Value.oneCell']) (by omega) (by decide) (by have := hD2.lt; simp; omega) ?_
            intro vo' w5 hrow5 hC5 _ _
            have hown : ∀ k, vo.ownBlock = some k → D + 1 ≤ k := fun k hk => (hrow2.lt k hk).1
            have hC5' : Chg w w5 none_ := (hC2.al _).trans hC5 fun k hk hh => by have := hown k hh; omega
            have hS5 : TolSt w w5 c h t g D (out ++ [(i : Int)]) (dn.set i true) vo' := by
              refine ⟨hC5', (hbox2.alloc _).chg hC5 fun hh => by have := hown _ hh; omega, (hgate2.alloc _).chg hC5 fun hh => by have := hown _ hh; omega, (hD2.alloc _).chg hC5 fun hh => by have := hown _ hh; omega, by simpa using hrow5, by rw [List.length_set]; exact hsl, htell, fun y hy => ?_⟩
              have hss := Sn_set (sn := dn) (i := (i : Int)) true (by rw [hsl]; exact hri) hy.1
              rw [Int.toNat_natCast] at hss
              rw [hss, List.mem_append, List.mem_singleton]
              split
              · rename_i e; simp [e]
              · rename_i e; rw [hS.mem y hy]; simp [e]
            repeat' (first
 | (apply WC_seqK; intro K hK)
 | (apply hK; clear hK)
 | (apply WC_region)
 | (apply WL_nil)
 | (apply thenQ_normal)
 | (apply thenQ_exit)
 | (apply blockQ_hit)
 | (apply blockQ_miss; eq_refl)
 | (apply blockQ_normal)
 | (apply WC_exit)
 | (apply WL_on0; eq_refl)
 | (apply X_pv; eq_refl; first | exact trivial | omega))
            exact ⟨(out ++ [(i : Int)], dn.set i true, vo', true), ⟨rfl, rfl, rfl, rfl, rfl, trivial⟩, ⟨hS5, fun h => (by cases h)⟩, by simp only [List.length_append, List.length_singleton]; simp; omega⟩
        · have hz : (rg c.ands.length a ∧ Sn dn a = false ∧ 0 ≤ a ∧ a < c.ands.length) ∨ ((a < 0 ∨ (rg c.ands.length a ∧ Sn dn a = true ∧ 0 ≤ a ∧ a < c.ands.length)) ∧ rg c.ands.length bb ∧ Sn dn bb = false ∧ 0 ≤ bb ∧ bb < c.ands.length) := by
            rcases ha with ⟨h1, h1'⟩ | ⟨h1, h2, h3⟩
            · rcases hb with ⟨g1, g1'⟩ | ⟨g1, g2, g3⟩
              · refine absurd ⟨hri, hnew, fun z hz => ?_⟩ hcan
                rcases (hmB z).1 hz with ⟨e, _⟩ | ⟨e, _⟩
                · exact absurd e h1'
                · exact absurd e g1'
              · refine .inr ⟨.inl h1, g1, ?_, hrb g1⟩
                cases hsb : Sn dn bb with
                | false => rfl
                | true =>
                  refine absurd ⟨hri, hnew, fun z hz => ?_⟩ hcan
                  rcases (hmB z).1 hz with ⟨e, _⟩ | ⟨e, e2⟩
                  · exact absurd e h1'
                  · rw [← e2, g3]; exact (hS.mem bb g1).1 hsb
            · cases hsa : Sn dn a with
              | false => exact .inl ⟨h1, rfl, hra h1⟩
              | true =>
                refine .inr ⟨.inr ⟨h1, rfl, hra h1⟩, ?_⟩
                rcases hb with ⟨g1, g1'⟩ | ⟨g1, g2, g3⟩
                · refine absurd ⟨hri, hnew, fun z hz => ?_⟩ hcan
                  rcases (hmB z).1 hz with ⟨e, e2⟩ | ⟨e, _⟩
                  · rw [← e2, h3]; exact (hS.mem a h1).1 hsa
                  · exact absurd e g1'
                · refine ⟨g1, ?_, hrb g1⟩
                  cases hsb : Sn dn bb with
                  | false => rfl
                  | true =>
                    refine absurd ⟨hri, hnew, fun z hz => ?_⟩ hcan
                    rcases (hmB z).1 hz with ⟨e, e2⟩ | ⟨e, e2⟩
                    · rw [← e2, h3]; exact (hS.mem a h1).1 hsa
                    · rw [← e2, g3]; exact (hS.mem bb g1).1 hsb
          clear ha hb hmB hra hrb
          rcases hz with ⟨ha', hta, ha0, ha1⟩ | ⟨ha' | ⟨ha', hta, ha0, ha1⟩, hb', htb, hb0, hb1⟩
          all_goals
            repeat' (first
 | (apply O_loadR; eq_refl; (exact fun _ h => h.box); exact e6; assumption)
 | (apply O_loadC; eq_refl; (exact fun W h => cel_chg (hpc 1 _ rfl) h.chg id); assumption)
 | (apply O_loadC; eq_refl; (exact fun W h => cel_chg (hpc 2 _ rfl) h.chg id); assumption)
 | (apply O_loadR; eq_refl; (exact fun _ h => h.gate); exact hcl; assumption)
 | (apply O_loadR; eq_refl; (exact fun _ h => h.gate); exact hcr; assumption)
 | (apply X_loadR; eq_refl; exact hdone'; (exact hca (by assumption) (by assumption)))
 | (apply X_loadR; eq_refl; exact hdone'; (exact hfa (by assumption) (by assumption)))
 | (apply X_loadR; eq_refl; exact hdone'; (exact hfb (by assumption) (by assumption)))
 | (apply WL_noU; eq_refl; eq_refl; eq_refl)
 | (apply WC_seqK; intro K hK)
 | (apply hK; clear hK)
 | (apply WC_region)
 | (apply WL_nil)
 | (apply thenQ_normal)
 | (apply blockQ_normal)
 | (apply WC_skip)
 | (apply WC_if_false; eq_refl)
 | (apply WS_nil)
 | (apply WS_next; eq_refl)
 | (apply WO_on0; eq_refl)
 | (apply O_pv; eq_refl; (first | exact trivial | omega); (first | assumption | exact trivial))
 | (apply O_field; eq_refl; (first | assumption | exact trivial))
 | (apply O_index; eq_refl; eq_refl; omega; omega; (first | assumption | exact trivial))
 | (apply O_indexP; eq_refl; eq_refl; omega; omega; (first | assumption | exact trivial))
 | (apply O_fieldP; eq_refl; (first | assumption | exact trivial))
 | (apply WL_on0; eq_refl)
 | (apply WL_onG; eq_refl; eq_refl; eq_refl; eq_refl)
 | (apply WL_noG; eq_refl; eq_refl; eq_refl; eq_refl)
 | (apply X_pv; eq_refl; first | exact trivial | omega)
 | (apply X_cmpT; eq_refl; eq_refl; omega)
 | (apply X_cmpF; eq_refl; eq_refl; omega)
 | (apply X_index; eq_refl; eq_refl; omega; omega))
          all_goals
            refine ⟨i + 1, ⟨rfl, rfl, rfl, rfl, rfl, rfl, trivial⟩, ⟨hS, hlt, fun y hy hc => ?_⟩, by omega⟩
            rcases Int.lt_or_le y (i : Int) with h1 | h1
            · exact hno y h1 hc
            · have : y = i := by omega
              subst this
              exact hcan hc
    · obtain rfl : i = c.ands.length := by omega
      repeat' (first
 | (apply WC_seqK; intro K hK)
 | (apply hK; clear hK)
 | (apply WC_region)
 | (apply WL_nil)
 | (apply thenQ_normal)
 | (apply thenQ_exit)
 | (apply blockQ_hit)
 | (apply blockQ_normal)
 | (apply WC_exit)
 | (apply WC_if_false; eq_refl)
 | (apply WL_on0; eq_refl)
 | (apply X_pv; eq_refl; first | exact trivial | omega)
 | (apply X_field; eq_refl)
 | (apply X_loadR; eq_refl; (first | assumption | (apply Blk.alloc; assumption) | apply Blk.new | apply Blk.newA | (apply Blk.alloc; first | apply Blk.newA | (apply Blk.alloc; first | assumption | apply Blk.newA))); eq_refl)
 | (apply X_cmpF; eq_refl; eq_refl; omega)
 | (apply X_len; eq_refl))
      refine ⟨(out, dn, vo, false), ⟨rfl, rfl, rfl, rfl, rfl, trivial⟩, ⟨hS3, fun _ => ⟨hS3.told, fun y hy => hno y hy.rg.2 hy⟩⟩, by simp⟩
end SC
end Go.Proofs.Ytbmngkdnebklpaa
end
section
/- trestleref03: round. -/
set_option linter.unusedVariables false
set_option linter.unusedSimpArgs false
namespace Go.Proofs.Ytbmngkdnebklpaa
namespace SC
open Go.Proofs
/-- The search from a gate, first come first served: i of the list are done. -/
structure Bfs (n : Nat) (B : Int → List Int) (at_ : Int) (l : List Int) (sn : List Bool) (i : Nat) : Prop where
  len : sn.length = n
  head : l[0]? = some at_
  all : ∀ z ∈ l, rg n z ∧ (z = at_ ∨ Hangs B at_ z)
  seen : ∀ z, rg n z → Sn sn z = true → z ∈ l
  done : ∀ j (hj : j < l.length), j < i → ∀ u ∈ B l[j], u ≠ at_ ∧ u ∈ l
  cnt : l.length + sn.count false = n + 1
  le : i ≤ l.length
theorem Bfs.init {n : Nat} {B : Int → List Int} {at_ : Int} (h : rg n at_) : Bfs n B at_ [at_] (List.replicate n false) 0 :=
  ⟨by simp, rfl, fun z hz => by simp at hz; subst hz; exact ⟨h, .inl rfl⟩, fun z _ hz => (by rw [Sn_false] at hz; cases hz), fun j _ hj => absurd hj (Nat.not_lt_zero _), by simp; omega, Nat.zero_le _⟩
theorem Bfs.hangs {n : Nat} {B : Int → List Int} {at_ : Int} {l : List Int} {sn : List Bool} {i : Nat} (h : Bfs n B at_ l sn i) {x u : Int} (hx : x ∈ l) (hu : u ∈ B x) : Hangs B at_ u := by
  rcases (h.all x hx).2 with rfl | hh
  · exact .one hu
  · exact .more hh hu
theorem Bfs.add {n : Nat} {B : Int → List Int} {at_ : Int} {l : List Int} {sn : List Bool} {i : Nat} (h : Bfs n B at_ l sn i) {u : Int} (hr : rg n u) (hh : Hangs B at_ u) (hs : Sn sn u = false) : Bfs n B at_ (l ++ [u]) (sn.set u.toNat true) i := by
  have hul : u.toNat < sn.length := by have := h.len; unfold rg at hr; omega
  have hc : (sn.set u.toNat true).count false + 1 = sn.count false := count_set _ _ (by
    rw [List.getElem?_eq_getElem hul]
    unfold Sn at hs
    simpa [hul] using hs)
  have hpos : 0 < l.length := (List.getElem?_eq_some_iff.1 h.head).1
  have hle := h.le
  refine ⟨by rw [List.length_set]; exact h.len, by rw [List.getElem?_append_left hpos]; exact h.head, fun z hz => ?_, fun z hz hz2 => ?_, fun j hj hji v hv => ?_, ?_, by simp; omega⟩
  · rcases List.mem_append.1 hz with hz | hz
    · exact h.all z hz
    · simp at hz; subst hz; exact ⟨hr, .inr hh⟩
  · rw [Sn_set true (by rw [h.len]; exact hr) hz.1] at hz2
    split at hz2
    · rename_i e; subst e; simp
    · exact List.mem_append_left _ (h.seen z hz hz2)
  · rcases Nat.lt_or_ge j l.length with hjl | hjl
    · rw [List.getElem_append_left hjl] at hv
      obtain ⟨h1, h2⟩ := h.done j hjl hji v hv
      exact ⟨h1, List.mem_append_left _ h2⟩
    · omega
  · have := h.cnt
    rw [List.length_append, List.length_singleton]
    omega
theorem Bfs.next {n : Nat} {B : Int → List Int} {at_ : Int} {l : List Int} {sn : List Bool} {i : Nat} (h : Bfs n B at_ l sn i) (hi : i < l.length) (hu : ∀ u ∈ B l[i], u ≠ at_ ∧ u ∈ l) : Bfs n B at_ l sn (i + 1) :=
  ⟨h.len, h.head, h.all, h.seen, fun j hj hji u hh => by
    rcases Nat.lt_or_ge j i with h1 | h1
    · exact h.done j hj h1 u hh
    · have e : j = i := by omega
      subst e
      exact hu u hh, h.cnt, hi⟩
theorem Bfs.none {n : Nat} {B : Int → List Int} {at_ : Int} {l : List Int} {sn : List Bool} {i : Nat} (h : Bfs n B at_ l sn i) (hi : l.length ≤ i) : ¬ Hangs B at_ at_ := by
  have key : ∀ z, Hangs B at_ z → z ≠ at_ ∧ z ∈ l := fun z hz => by
    have cl : ∀ x ∈ l, ∀ u ∈ B x, u ≠ at_ ∧ u ∈ l := fun x hx u hu => by
      obtain ⟨j, hj, rfl⟩ := List.mem_iff_getElem.1 hx
      exact h.done j hj (by omega) u hu
    generalize hv : at_ = v at hz
    have hat : at_ ∈ l := List.mem_of_getElem? h.head
    induction hz with
    | one h1 => subst hv; exact cl _ hat _ h1
    | more _ h1 ih => subst hv; exact cl _ ih.2 _ h1
  exact fun hh => (key _ hh).1 rfl
theorem Bfs.size {n : Nat} {B : Int → List Int} {at_ : Int} {l : List Int} {sn : List Bool} {i : Nat} (h : Bfs n B at_ l sn i) : l.length ≤ n + 1 := by have := h.cnt; omega
/-- What round keeps in memory. -/
structure RndSt (w W : World) (c : Circ) (h : Hd) (g D : Nat) (l : List Int) (sn : List Bool) (v : Value) : Prop where
  chg : Chg w W none_
  box : Blk W w.heap.size 29 (ccells c h)
  gate : Blk W g 3 ((gatesM c).map nu)
  seen : Blk W D 4 (sn.map Value.bool)
  row : W.ownsRow (D + 1) 3 1 v l.length (l.map nu)
theorem RndSt.same {w W W' : World} {c : Circ} {h : Hd} {g D : Nat} {l : List Int} {sn : List Bool} {v : Value} (S : RndSt w W c h g D l sn v) (hc : Chg W W' none_) : RndSt w W' c h g D l sn v :=
  ⟨S.chg.trans hc fun _ _ h => h, S.box.chg hc id, S.gate.chg hc id, S.seen.chg hc id, own_chg S.row hc fun _ _ => id⟩
section
variable {P : Program} {n : Nat} {all : List Oper} {S : World → Prop} {K : Env → World → Prop} {i : Nat} {r : List (Nat × Bool)} {d : Option Tmp} {ty t : TypeId} {e : Env} {w : World} {td : TypeDesc} {sz by_ : Nat} {zv : Value} {ag : Bool}
theorem O_alloc [T : Ty P t td sz zv by_ ag] (hS : loose .any all.toArray i = false → S (w.alloc (.cells zv.cells t))) (hr : WS P n all S K r (push d (.pointer (some ⟨w.heap.size, 0, none⟩)) e) (w.alloc (.cells zv.cells t))) : OX P n all S K i false r d (.alloc t) ty e w := O_does does_alloc hS hr
end
attribute [local irreducible] WC WL WX WS WO OX Does DoesU Enters CV Pure thenQ blockQ retQ Wants retQC
set_option maxRecDepth 100000
theorem round_cv {w : World} {c : Circ} {h js : Hd} {t : Tab} {g : Nat} {at_ : Int} (H : CirAt w c h js) (hG : Blk w g 3 ((gatesM c).map nu)) (hT : TabOk c t) (hU : UseAll c t) (hm : 0 ≤ c.max ∧ c.max ≤ 16384) (hn : c.ands.length ≤ 16384) (hat : rg c.ands.length at_) :
    CV Try.prog 82 [.agg (ccells c h).toArray, .slice (some ⟨g, 0, none⟩) (gatesM c).length (gatesM c).length, nu at_] w fun v w' => ∃ b, v = .bool b ∧ (b = true ↔ Hangs (gateB t c) at_ at_) ∧ Chg w w' none_ := by
  have hI0 : Blk (w.alloc (.cells (ccells c h).toArray 29)) w.heap.size 29 (ccells c h) := Blk.new w _ _
  have hC0 := Chg.alloc w (.cells (ccells c h).toArray 29) none_
  have hgl := gatesM_len c
  have hg0 := hG.lt
  refine enter 79 [6] Try.func82 rfl rfl rfl (by decide) rfl ?_
  repeat' (first
 | (apply X_make; eq_refl; omega; omega)
 | (apply WC_seqK; intro K hK)
 | (apply hK; clear hK)
 | (apply WC_block)
 | (apply WC_region)
 | (apply WL_nil)
 | (apply thenQ_normal)
 | (apply WL_on0; eq_refl)
 | (apply X_pv; eq_refl; first | exact trivial | omega)
 | (apply X_field; eq_refl)
 | (apply X_loadR; eq_refl; (first | assumption | (apply Blk.alloc; assumption) | apply Blk.new | apply Blk.newA | (apply Blk.alloc; first | apply Blk.newA | (apply Blk.alloc; first | assumption | apply Blk.newA))); eq_refl)
 | (apply X_len; eq_refl)
 | (apply X_box; eq_refl)
 | (apply X_does; apply buildS22_1 <;> eq_refl))
  have hz0 := sz_alloc w (.cells (ccells c h).toArray 29)
  have hz1 := sz_alloc (w.alloc (.cells (ccells c h).toArray 29)) (.cells (madeCells (Value.bool false).cells (c.ands.length * 1)) 4)
  have hdm : Blk ((w.alloc (.cells (ccells c h).toArray 29)).alloc (.cells (madeCells (Value.bool false).cells (c.ands.length * 1)) 4)) (w.alloc (.cells (ccells c h).toArray 29)).heap.size 4 ((List.replicate c.ands.length false).map Value.bool) := by
    have e1 : (madeCells (Value.bool false).cells (c.ands.length * 1)).toList = (List.replicate c.ands.length false).map Value.bool := by rw [Nat.mul_one, show (Value.bool false).cells = #[Value.bool false] from rfl, made_one, List.map_replicate]
    have := Blk.newA (w.alloc (.cells (ccells c h).toArray 29)) (madeCells (Value.bool false).cells (c.ands.length * 1)) 4
    rwa [e1] at this
  have hS0 : RndSt w (((w.alloc (.cells (ccells c h).toArray 29)).alloc (.cells (madeCells (Value.bool false).cells (c.ands.length * 1)) 4)).alloc (.cells #[nu at_] 3)) c h g (w.alloc (.cells (ccells c h).toArray 29)).heap.size [at_] (List.replicate c.ands.length false) (.slice (some ⟨((w.alloc (.cells (ccells c h).toArray 29)).alloc (.cells (madeCells (Value.bool false).cells (c.ands.length * 1)) 4)).heap.size, 0, none⟩) 1 1) :=
    ⟨(hC0.al _).al _, (hI0.alloc _).alloc _, ((hG.alloc _).alloc _).alloc _, hdm.alloc _, ⟨by simp, .inr ⟨_, 1, #[nu at_], rfl, by rw [hz1]; exact Nat.le_refl _, heap_alloc_new _ _, Nat.le_refl _, by simp [maxLen], rfl, rfl⟩⟩⟩
  have hDw : w.heap.size < (w.alloc (.cells (ccells c h).toArray 29)).heap.size := by omega
  refine WC_loop (fun s : Nat × List Int × List Bool × Value => [(1, .slice (some ⟨g, 0, none⟩) (gatesM c).length (gatesM c).length), (2, nu at_), (3, pt w.heap.size), (7, .slice (some ⟨(w.alloc (.cells (ccells c h).toArray 29)).heap.size, 0, none⟩) c.ands.length c.ands.length), (8, s.2.2.2), (9, nu s.1)])
    (fun s W => RndSt w W c h g (w.alloc (.cells (ccells c h).toArray 29)).heap.size s.2.1 s.2.2.1 s.2.2.2 ∧ Bfs c.ands.length (gateB t c) at_ s.2.1 s.2.2.1 s.1) (fun s => c.ands.length + 2 - s.1)
    (0, [at_], List.replicate c.ands.length false, .slice (some ⟨((w.alloc (.cells (ccells c h).toArray 29)).alloc (.cells (madeCells (Value.bool false).cells (c.ands.length * 1)) 4)).heap.size, 0, none⟩) 1 1) ⟨rfl, rfl, rfl, rfl, rfl, rfl, trivial⟩ ⟨hS0, .init hat⟩ ?_
  clear hS0 hdm hI0 hC0 hz0 hz1
  generalize (w.alloc (.cells (ccells c h).toArray 29)).heap.size = D at *
  rintro ⟨i, l, sn, vl⟩ w1 ⟨hS1, hB1⟩
  simp only at hS1 hB1
  obtain ⟨A1, cp1, rfl⟩ := row_form' hS1.row
  have hsz := hB1.size
  rcases Nat.lt_or_ge i l.length with hlt | hge
  · obtain ⟨p, rfl, hpc⟩ := (rowI hS1.row).one hlt (v := nu l[i]) rfl
    have hz := hB1.all _ (List.getElem_mem hlt)
    have hnx := hB1.next hlt
    have hlz := List.getElem_mem hlt
    generalize hzz : l[i] = z at *
    obtain ⟨hzr, hzh⟩ := hz
    have hzr' : 0 ≤ z ∧ z < c.ands.length := hzr
    have hzn : z.toNat < c.ands.length := by omega
    obtain ⟨q, hq, hqc⟩ := H.ands z.toNat hzn
    have hx : andAt c z = c.ands[z.toNat] := by unfold andAt; simp [hzn]
    have hle := hT.lit hU hzr (.inl rfl)
    have hri := hT.lit hU hzr (.inr rfl)
    rw [hx] at hle hri
    rw [show ((z.toNat : Nat) : Int) = z by omega] at hqc
    generalize hxx : c.ands[z.toNat] = x at *
    have hmB : ∀ u, u ∈ gateB t c z ↔ (kindAt t (x.2.1 / 2) = 3 ∧ atOf t (x.2.1 / 2) = u) ∨ (kindAt t (x.2.2 / 2) = 3 ∧ atOf t (x.2.2 / 2) = u) := fun u => by
      rw [mem_gateB hzr, hx]
      constructor
      · rintro ⟨l, rfl | rfl, h1, h2⟩
        · exact .inl ⟨h1, h2⟩
        · exact .inr ⟨h1, h2⟩
      · rintro (⟨h1, h2⟩ | ⟨h1, h2⟩)
        · exact ⟨_, .inl rfl, h1, h2⟩
        · exact ⟨_, .inr rfl, h1, h2⟩
    obtain ⟨hl0, hl1, hl2⟩ := hle
    obtain ⟨hr0, hr1, hr2⟩ := hri
    have hcl := L_cell (ls := gatesM c) (y := x.2.1 / 2) (by unfold rg; rw [hgl]; omega)
    have hcr := L_cell (ls := gatesM c) (y := x.2.2 / 2) (by unfold rg; rw [hgl]; omega)
    have hab : ∀ u : Int, 0 ≤ u → (L (gatesM c) (x.2.1 / 2) = u ∨ L (gatesM c) (x.2.2 / 2) = u) → rg c.ands.length u ∧ u ∈ gateB t c z := fun u hu hh => by
      rcases hh with rfl | rfl
      · rcases hl2 with ⟨_, h2, h3, h4⟩ | ⟨_, h2⟩
        · rw [h2]; exact ⟨h3, h4⟩
        · omega
      · rcases hr2 with ⟨_, h2, h3, h4⟩ | ⟨_, h2⟩
        · rw [h2]; exact ⟨h3, h4⟩
        · omega
    have hBab : ∀ u ∈ gateB t c z, 0 ≤ u ∧ (L (gatesM c) (x.2.1 / 2) = u ∨ L (gatesM c) (x.2.2 / 2) = u) := fun u hu => by
      rcases (hmB u).1 hu with ⟨h1, h2⟩ | ⟨h1, h2⟩
      · rcases hl2 with ⟨_, g2, g3, _⟩ | ⟨g1, _⟩
        · unfold rg at g3; exact ⟨by omega, .inl (g2.trans h2)⟩
        · exact absurd h1 g1
      · rcases hr2 with ⟨_, g2, g3, _⟩ | ⟨g1, _⟩
        · unfold rg at g3; exact ⟨by omega, .inr (g2.trans h2)⟩
        · exact absurd h1 g1
    clear hl2 hr2 hmB
    generalize L (gatesM c) (x.2.1 / 2) = a at *
    generalize L (gatesM c) (x.2.2 / 2) = bb at *
    have e6 : (ccells c h)[0 + 8]? = some (.slice (some q) c.ands.length (h 8).2) := by rw [← hq]; rfl
    repeat' (first
 | (apply WC_seqK; intro K hK)
 | (apply hK; clear hK)
 | (apply WC_block)
 | (apply WC_region)
 | (apply WL_nil)
 | (apply thenQ_normal)
 | (apply WC_skip)
 | (apply WC_if_true; eq_refl)
 | (apply WL_on0; eq_refl)
 | (apply X_pv; eq_refl; first | exact trivial | omega)
 | (apply X_cmpT; eq_refl; eq_refl; omega)
 | (apply X_len; eq_refl))
    refine WC_draws [(0, true), (1, true), (2, true), (3, true), (4, true), (5, true), (6, true), (7, true), (8, false), (9, false)] (fun W => Chg w1.drew W none_) mixed (by kernel_rfl) (by kernel_rfl) ?_
    have hS2 := hS1.same (Chg.refl w1 none_).dr
    have hpc2 : w1.drew.cell? _ = _ := hpc
    generalize w1.drew = w2 at *
    have hR := Chg.refl w2 none_
    repeat' (first
 | (apply O_loadR; eq_refl; (exact fun _ h => hS2.box.chg h id); exact e6; assumption)
 | (apply O_loadC; eq_refl; (exact fun W h => cel_chg hpc2 h id); assumption)
 | (apply O_loadAP (tcells x); eq_refl; eq_refl; (exact fun W h j u hj => cel_chg (hqc j u hj) (hS2.chg.trans h fun _ _ h => h) id); assumption)
 | (apply O_alloc; exact fun _ => hR.al _)
 | (apply WS_next; eq_refl)
 | (apply WO_on0; eq_refl)
 | (apply O_pv; eq_refl; (first | exact trivial | omega); (first | assumption | exact trivial))
 | (apply O_field; eq_refl; (first | assumption | exact trivial))
 | (apply O_indexP; eq_refl; eq_refl; omega; omega; (first | assumption | exact trivial)))
    have hcc : Chg w2 ((w2.alloc (.cells #[nu 0, nu 0, nu 0] 54)).setRow w2.heap.size (tcells x).toArray) none_ := (Chg.alloc w2 _ none_).trans (Chg.setRow _ w2.heap.size _ (S := fun k => k = w2.heap.size) rfl) fun k hk h => by omega
    refine O_doesU (does_storeA (t1 := 54) (vs := tcells x) (o := 0) (b := w2.heap.size) (by eq_refl) (by eq_refl) (Blk.newA w2 _ _) rfl (by exact Nat.le_refl 3) (by simp [tcells, Value.oneCell'])) (fun _ => hcc) ?_
    refine WS_turn (fun W => RndSt w W c h g D l sn (.slice (some p) l.length cp1) ∧ Blk W w2.heap.size 54 (tcells x)) ⟨hS2.same hcc, (Blk.newA w2 _ 54).set (tcells x)⟩ ?_
    clear hcc hR hS2 hpc2 hpc hS1
    generalize w2.heap.size = b10 at *
    rintro w3 ⟨hS3, hT3⟩
    repeat' (first
 | (apply WC_seqK; intro K hK)
 | (apply hK; clear hK)
 | (apply thenQ_normal)
 | (apply WS_nil))
    skip
    refine WC_draws [(0, true), (1, true), (2, true), (3, true), (4, true), (5, true), (6, true), (7, true), (8, true), (9, true), (10, true), (11, true), (12, true), (13, false), (14, false)] (fun W => Chg w3.drew W none_) mixed (by kernel_rfl) (by kernel_rfl) ?_
    have hS4 := hS3.same (Chg.refl w3 none_).dr
    have hT4 : Blk w3.drew b10 54 (tcells x) := hT3
    generalize w3.drew = w4 at *
    have hR := Chg.refl w4 none_
    repeat' (first
 | (apply O_loadR; eq_refl; (exact fun _ h => hT4.chg h id); eq_refl; assumption)
 | (apply O_loadR; eq_refl; (exact fun W h => hS4.gate.chg h id); exact hcl; assumption)
 | (apply O_loadR; eq_refl; (exact fun W h => hS4.gate.chg h id); exact hcr; assumption)
 | (apply O_alloc; exact fun _ => hR.al _)
 | (apply WS_next; eq_refl)
 | (apply WO_on0; eq_refl)
 | (apply O_pv; eq_refl; (first | exact trivial | omega); (first | assumption | exact trivial))
 | (apply O_field; eq_refl; (first | assumption | exact trivial))
 | (apply O_index; eq_refl; eq_refl; omega; omega; (first | assumption | exact trivial))
 | (apply O_pure; apply build149_0_1 <;> eq_refl; (first | assumption | exact trivial)))
    have hcc : Chg w4 ((w4.alloc (.cells #[nu 0, nu 0] 149)).setRow w4.heap.size [nu a, nu bb].toArray) none_ := (Chg.alloc w4 _ none_).trans (Chg.setRow _ w4.heap.size _ (S := fun k => k = w4.heap.size) rfl) fun k hk h => by omega
    refine O_doesU (does_storeA (t1 := 149) (vs := [nu a, nu bb]) (o := 0) (b := w4.heap.size) (by eq_refl) (by eq_refl) (Blk.newA w4 _ _) rfl (by exact Nat.le_refl 2) (by simp [Value.oneCell'])) (fun _ => hcc) ?_
    have hDb := hS4.seen.lt
    refine WS_turn (fun W => RndSt w W c h g D l sn (.slice (some p) l.length cp1) ∧ Blk W w4.heap.size 149 [nu a, nu bb]) ⟨hS4.same hcc, (Blk.newA w4 _ 149).set [nu a, nu bb]⟩ ?_
    clear hcc hR hS4 hS3 hT3 hT4
    generalize w4.heap.size = b11 at *
    rintro w5 ⟨hS5, hP5⟩
    repeat' (first
 | (apply WC_seqK; intro K hK)
 | (apply hK; clear hK)
 | (apply WC_block)
 | (apply WC_region)
 | (apply WL_nil)
 | (apply thenQ_normal)
 | (apply WS_nil)
 | (apply WL_on0; eq_refl)
 | (apply X_pv; eq_refl; first | exact trivial | omega))
    skip
    refine WC_loop (fun s : Nat × List Int × List Bool × Value => [(1, .slice (some ⟨g, 0, none⟩) (gatesM c).length (gatesM c).length), (2, nu at_), (3, pt w.heap.size), (7, .slice (some ⟨D, 0, none⟩) c.ands.length c.ands.length), (8, s.2.2.2), (9, nu i), (11, pt b11), (12, nu s.1)])
      (fun s W => RndSt w W c h g D s.2.1 s.2.2.1 s.2.2.2 ∧ Blk W b11 149 [nu a, nu bb] ∧ Bfs c.ands.length (gateB t c) at_ s.2.1 s.2.2.1 i ∧ s.2.1[i]? = some z ∧ s.1 ≤ 2 ∧ (∀ k < s.1, ∀ v, [a, bb][k]? = some v → 0 ≤ v → v ≠ at_ ∧ v ∈ s.2.1)) (fun s => 2 - s.1)
      (0, l, sn, .slice (some p) l.length cp1) ⟨rfl, rfl, rfl, rfl, rfl, rfl, rfl, rfl, trivial⟩ ⟨hS5, hP5, hB1, by rw [List.getElem?_eq_getElem hlt, hzz], Nat.zero_le _, fun k hk => absurd hk (Nat.not_lt_zero _)⟩ ?_
    clear hS5 hP5 hB1 hsz hnx hlz hzz hlt hzh
    rintro ⟨k, l, sn, vl⟩ w5 ⟨hS5, hP5, hB5, hli, hk, hno⟩
    simp only at hS5 hB5 hli hno hk
    have hsz := hB5.size
    have hlz : z ∈ l := List.mem_of_getElem? hli
    rcases Nat.lt_or_ge k 2 with hlt | hge
    · obtain ⟨v, hv1, hv2, hv3⟩ : ∃ v, [a, bb][k]? = some v ∧ [nu a, nu bb][0 + (k : Int).toNat * 1]? = some (nu v) ∧ (a = v ∨ bb = v) := by
        match k, hlt with
        | 0, _ => exact ⟨a, rfl, rfl, .inl rfl⟩
        | 1, _ => exact ⟨bb, rfl, rfl, .inr rfl⟩
      have hseen := hS5.seen
      have hno' : ∀ {l' : List Int}, (∀ y ∈ l, y ∈ l') → (0 ≤ v → v ≠ at_ ∧ v ∈ l') → ∀ k' < k + 1, ∀ u, [a, bb][k']? = some u → 0 ≤ u → u ≠ at_ ∧ u ∈ l' := fun {l'} hsub hv k' hk' u hu h0 => by
        rcases Nat.lt_or_ge k' k with h1 | h1
        · obtain ⟨g1, g2⟩ := hno k' h1 u hu h0
          exact ⟨g1, hsub _ g2⟩
        · have e : k' = k := by omega
          subst e
          rw [hv1] at hu
          cases hu
          exact hv h0
      by_cases hva : v = at_
      · have h0 : 0 ≤ v := by rw [hva]; exact hat.1
        have hh := hB5.hangs hlz (hab v h0 hv3).2
        rw [hva] at hv2 hh
        repeat' (first
 | (apply X_indexA; eq_refl; eq_refl; omega; omega)
 | (apply X_loadR; eq_refl; exact hP5; exact hv2)
 | (apply WC_seqK; intro K hK)
 | (apply hK; clear hK)
 | (apply WC_block)
 | (apply WC_region)
 | (apply WL_nil)
 | (apply thenQ_normal)
 | (apply thenQ_ret)
 | (apply blockQ_ret)
 | (apply WC_ret)
 | (apply WC_skip)
 | (apply WC_if_true; eq_refl)
 | (apply ret1; eq_refl)
 | (apply WL_on0; eq_refl)
 | (apply X_pv; eq_refl; first | exact trivial | omega)
 | (apply X_cmpT; eq_refl; eq_refl; omega))
        exact ⟨true, rfl, ⟨fun _ => hh, fun _ => rfl⟩, hS5.chg⟩
      · by_cases h0 : 0 ≤ v
        · obtain ⟨hvr, hvB⟩ := hab v h0 hv3
          have hvr' : 0 ≤ v ∧ v < c.ands.length := hvr
          have hcell := Sn_cell (sn := sn) (z := v) (by rw [hB5.len]; exact hvr)
          cases hsv : Sn sn v with
          | true =>
            rw [hsv] at hcell
            repeat' (first
 | (apply X_indexA; eq_refl; eq_refl; omega; omega)
 | (apply X_loadR; eq_refl; exact hP5; exact hv2)
 | (apply X_loadR; eq_refl; exact hseen; exact hcell)
 | (apply WC_seqK; intro K hK)
 | (apply hK; clear hK)
 | (apply WC_block)
 | (apply WC_region)
 | (apply WL_nil)
 | (apply thenQ_normal)
 | (apply blockQ_normal)
 | (apply WC_skip)
 | (apply WC_if_true; eq_refl)
 | (apply WC_if_false; eq_refl)
 | (apply WL_on0; eq_refl)
 | (apply WL_onG; eq_refl; eq_refl; eq_refl; eq_refl)
 | (apply X_pv; eq_refl; first | exact trivial | omega)
 | (apply X_cmpT; eq_refl; eq_refl; omega)
 | (apply X_cmpF; eq_refl; eq_refl; omega)
 | (apply X_index; eq_refl; eq_refl; omega; omega))
            exact ⟨(k + 1, l, sn, vl), ⟨rfl, rfl, rfl, rfl, rfl, rfl, rfl, rfl, trivial⟩, ⟨hS5, hP5, hB5, hli, hlt, hno' (fun _ h => h) fun _ => ⟨hva, hB5.seen v hvr hsv⟩⟩, by simp only; omega⟩
          | false =>
            rw [hsv] at hcell
            have hB6 := hB5.add hvr (hB5.hangs hlz hvB) hsv
            have hsl := hB5.len
            repeat' (first
 | (apply X_indexA; eq_refl; eq_refl; omega; omega)
 | (apply X_loadR; eq_refl; exact hP5; exact hv2)
 | (apply X_loadR; eq_refl; exact hseen; exact hcell)
 | (apply WC_seqK; intro K hK)
 | (apply hK; clear hK)
 | (apply WC_block)
 | (apply WC_region)
 | (apply WL_nil)
 | (apply thenQ_normal)
 | (apply WC_skip)
 | (apply WC_if_true; eq_refl)
 | (apply WC_if_false; eq_refl)
 | (apply WL_on0; eq_refl)
 | (apply WL_onG; eq_refl; eq_refl; eq_refl; eq_refl)
 | (apply X_pv; eq_refl; first | exact trivial | omega)
 | (apply X_cmpT; eq_refl; eq_refl; omega)
 | (apply X_cmpF; eq_refl; eq_refl; omega)
 | (apply X_index; eq_refl; eq_refl; omega; omega))
            refine X_doesU (does_store1 (t1 := 4) (b := D) (o := 0 + v.toNat * 1) (v := .bool true) (by eq_refl) (by eq_refl) hseen (by simp; omega) rfl rfl) ?_
            have hcc : Chg w5 (w5.setRow D ((sn.map Value.bool).set (0 + v.toNat * 1) (.bool true)).toArray) (fun k => k = D) := Chg.setRow _ _ _ rfl
            have hD2 := hseen.set ((sn.map Value.bool).set (0 + v.toNat * 1) (.bool true))
            rw [show (sn.map Value.bool).set (0 + v.toNat * 1) (.bool true) = (sn.set v.toNat true).map Value.bool by rw [Nat.zero_add, Nat.mul_one, List.map_set]] at hcc hD2 ⊢
            have hS6 : RndSt w (w5.setRow D ((sn.set v.toNat true).map Value.bool).toArray) c h g D l (sn.set v.toNat true) vl :=
              ⟨hS5.chg.trans hcc fun k hk hh => by omega, hS5.box.chg hcc (by omega), hS5.gate.chg hcc (by omega), hD2, own_chg hS5.row hcc fun k hk hh => by have := (hS5.row.lt k hk).1; omega⟩
            have hP6 := hP5.chg hcc (by omega)
            clear hcc hD2
            generalize w5.setRow D ((sn.set v.toNat true).map Value.bool).toArray = w6 at *
            repeat' (first
 | (apply X_indexA; eq_refl; eq_refl; omega; omega)
 | (apply X_loadR; eq_refl; exact hP6; exact hv2)
 | (apply hK; clear hK)
 | (apply WC_region)
 | (apply WL_nil)
 | (apply thenQ_normal)
 | (apply WL_on0; eq_refl)
 | (apply X_pv; eq_refl; first | exact trivial | omega)
 | (apply X_does; apply buildS22_1 <;> eq_refl))
            have hrow6 := hS6.row
            refine X_append (D + 1) (by eq_refl) (by eq_refl) (hrow6.alloc _) (Blk.newA w6 _ _) rfl rfl (by decide) (by simp [Value.oneCell']) (by omega) (by decide) (by have := hS6.seen.lt; simp; omega) ?_
            intro vl' w7 hrow7 hC7 _ _
            have hown : ∀ k, vl.ownBlock = some k → D + 1 ≤ k := fun k hk => (hrow6.lt k hk).1
            have hS7 : RndSt w w7 c h g D (l ++ [v]) (sn.set v.toNat true) vl' :=
              ⟨(hS6.chg.al _).trans hC7 fun k hk hh => by have := hown k hh; omega, (hS6.box.alloc _).chg hC7 fun hh => by have := hown _ hh; omega, (hS6.gate.alloc _).chg hC7 fun hh => by have := hown _ hh; omega, (hS6.seen.alloc _).chg hC7 fun hh => by have := hown _ hh; omega, by simpa using hrow7⟩
            have hP7 : Blk w7 b11 149 [nu a, nu bb] := (hP6.alloc (.cells #[nu v] 3)).chg hC7 (own_blk (hrow6.alloc (.cells #[nu v] 3)) (hP6.alloc (.cells #[nu v] 3)) (by decide))
            repeat' (first
 | (apply hK; clear hK)
 | (apply WC_region)
 | (apply WL_nil)
 | (apply thenQ_normal)
 | (apply blockQ_normal)
 | (apply WL_on0; eq_refl)
 | (apply X_pv; eq_refl; first | exact trivial | omega))
            have hil : i < l.length := (List.getElem?_eq_some_iff.1 hli).1
            exact ⟨(k + 1, l ++ [v], sn.set v.toNat true, vl'), ⟨rfl, rfl, rfl, rfl, rfl, rfl, rfl, rfl, trivial⟩, ⟨hS7, hP7, hB6, by rw [List.getElem?_append_left hil]; exact hli, hlt, hno' (fun _ h => List.mem_append_left _ h) fun _ => ⟨hva, by simp⟩⟩, by simp only; omega⟩
        · repeat' (first
 | (apply X_indexA; eq_refl; eq_refl; omega; omega)
 | (apply X_loadR; eq_refl; exact hP5; exact hv2)
 | (apply WC_seqK; intro K hK)
 | (apply hK; clear hK)
 | (apply WC_block)
 | (apply WC_region)
 | (apply WL_nil)
 | (apply thenQ_normal)
 | (apply blockQ_normal)
 | (apply WC_skip)
 | (apply WC_if_true; eq_refl)
 | (apply WC_if_false; eq_refl)
 | (apply WL_on0; eq_refl)
 | (apply WL_noG; eq_refl; eq_refl; eq_refl; eq_refl)
 | (apply X_pv; eq_refl; first | exact trivial | omega)
 | (apply X_cmpT; eq_refl; eq_refl; omega)
 | (apply X_cmpF; eq_refl; eq_refl; omega))
          exact ⟨(k + 1, l, sn, vl), ⟨rfl, rfl, rfl, rfl, rfl, rfl, rfl, rfl, trivial⟩, ⟨hS5, hP5, hB5, hli, hlt, hno' (fun _ h => h) fun h => absurd h h0⟩, by simp only; omega⟩
    · obtain rfl : k = 2 := by omega
      have hil : i < l.length := (List.getElem?_eq_some_iff.1 hli).1
      have hzi : l[i] = z := by rw [List.getElem?_eq_getElem hil] at hli; exact Option.some.inj hli
      have hB6 := hB5.next hil (by
        rw [hzi]
        intro u hu
        obtain ⟨h1, h2⟩ := hBab u hu
        rcases h2 with h2 | h2
        · exact hno 0 (by decide) u (by rw [← h2]; rfl) h1
        · exact hno 1 (by decide) u (by rw [← h2]; rfl) h1)
      repeat' (first
 | (apply WC_seqK; intro K hK)
 | (apply hK; clear hK)
 | (clear hK; apply hK; clear hK)
 | (apply WC_region)
 | (apply WL_nil)
 | (apply thenQ_normal)
 | (apply thenQ_exit)
 | (apply blockQ_hit)
 | (apply blockQ_normal)
 | (apply WC_exit)
 | (apply WC_if_false; eq_refl)
 | (apply WL_on0; eq_refl)
 | (apply X_pv; eq_refl; first | exact trivial | omega)
 | (apply X_cmpF; eq_refl; eq_refl; omega))
      exact ⟨(i + 1, l, sn, vl), ⟨rfl, rfl, rfl, rfl, rfl, rfl, trivial⟩, ⟨hS5, hB6⟩, by simp only; omega⟩
  · have hnone := hB1.none hge
    repeat' (first
 | (apply WC_seqK; intro K hK)
 | (apply hK; clear hK)
 | (clear hK; apply hK; clear hK)
 | (apply WC_region)
 | (apply WL_nil)
 | (apply thenQ_normal)
 | (apply thenQ_exit)
 | (apply blockQ_hit)
 | (apply WC_ret)
 | (apply WC_exit)
 | (apply WC_if_false; eq_refl)
 | (apply ret1; eq_refl)
 | (apply WL_on0; eq_refl)
 | (apply X_pv; eq_refl; first | exact trivial | omega)
 | (apply X_cmpF; eq_refl; eq_refl; omega)
 | (apply X_len; eq_refl))
    exact ⟨false, rfl, ⟨fun h => (by cases h), fun h => absurd h hnone⟩, hS1.chg⟩
end SC
end Go.Proofs.Ytbmngkdnebklpaa
end
section
/- trestleref03: symbols. -/
set_option linter.unusedVariables false
set_option linter.unusedSimpArgs false
namespace Go.Proofs.Ytbmngkdnebklpaa
namespace SC
open Go.Proofs
/-- What is to be shown later: stepping words stop here. -/
structure Later (p : Prop) : Prop where
  get : p
section
variable {P : Program} {n : Nat} {x y r b : Code} {Q : Post} {e : Env} {w : World}
theorem WC_mid (e1 : Env) (I : World → Prop) (h1 : WC P n x (fun s e' w' => s = .normal ∧ Sub e1 e' ∧ I w') e w) (h2 : Later (∀ w', I w' → WC P n y Q e1 w')) : WC P n (.seq x y) Q e w :=
  WC_seq (h1.mono fun s e' w' ⟨hs, hsub, hI⟩ => by subst hs; exact (h2.get w' hI).weaken hsub)
theorem WC_midB (i : Nat) (e1 : Env) (I : World → Prop) (h1 : WC P n (.seq r (.block i b)) (fun s e' w' => s = .normal ∧ Sub e1 e' ∧ I w') e w) (h2 : Later (∀ w', I w' → WC P n y Q e1 w')) : WC P n (.seq (.seq r (.block i b)) y) Q e w := WC_mid e1 I h1 h2
theorem WC_midR (i : Nat) {l : Array Oper} {d : Bool} (e1 : Env) (I : World → Prop) (h1 : WC P n (.region i l d) (fun s e' w' => s = .normal ∧ Sub e1 e' ∧ I w') e w) (h2 : Later (∀ w', I w' → WC P n y Q e1 w')) : WC P n (.seq (.region i l d) y) Q e w := WC_mid e1 I h1 h2
end
/-- How often a thing has a name before. -/
def SymF (ls : List Sym) (i : Nat) (f : Int → Int → Int) : Prop := ∀ p q, 0 ≤ f p q ∧ (0 < f p q ↔ ∃ k, ∃ hk : k < ls.length, k < i ∧ ls[k].kind = p ∧ ls[k].at_ = q)
theorem SymF.next {ls : List Sym} {i : Nat} {f : Int → Int → Int} (h : SymF ls i f) (hi : i < ls.length) : SymF ls (i + 1) (fun p q => if p = ls[i].kind ∧ q = ls[i].at_ then f ls[i].kind ls[i].at_ + 1 else f p q) := fun p q => by
  by_cases hc : p = ls[i].kind ∧ q = ls[i].at_
  · simp only [if_pos hc]
    have := (h ls[i].kind ls[i].at_).1
    exact ⟨by omega, fun _ => ⟨i, hi, by omega, hc.1.symm, hc.2.symm⟩, fun _ => by omega⟩
  · simp only [if_neg hc]
    refine ⟨(h p q).1, fun hh => ?_, fun ⟨k, hk, hki, h1, h2⟩ => ?_⟩
    · obtain ⟨k, hk, hki, h1, h2⟩ := (h p q).2.1 hh
      exact ⟨k, hk, by omega, h1, h2⟩
    · have : k ≠ i := fun e => by subst e; exact hc ⟨h1.symm, h2.symm⟩
      exact (h p q).2.2 ⟨k, hk, by omega, h1, h2⟩
attribute [local irreducible] WC WL WX WS WO OX Does DoesU Enters CV Pure thenQ blockQ retQ Wants retQC
set_option maxRecDepth 100000
theorem symbols82_cv {w : World} {c : Circ} {h js : Hd} (H : CirAt w c h js) (hs : c.Sane) : CV Try.prog 83 [.agg (ccells c h).toArray] w fun v w' => v = .tuple #[nu (if 0 ≤ goSym c c.symbols 0 fun _ _ => 0 then goSym c c.symbols 0 fun _ _ => 0 else 0), nu (if 0 ≤ goSym c c.symbols 0 fun _ _ => 0 then 35 else 0)] ∧ Chg w w' none_ := by
  have hN : Blk (w.alloc (.cells (ccells c h).toArray 29)) w.heap.size 29 (ccells c h) := Blk.new w _ _
  have hC := Chg.alloc w (.cells (ccells c h).toArray 29) none_
  have hlens := hs.lens
  refine enter 126 [2, 3] Try.func83 rfl rfl rfl (by decide) rfl ?_
  repeat' (first
 | (apply WC_seqK; intro K hK)
 | (apply hK; clear hK)
 | (apply WC_block)
 | (apply WC_region)
 | (apply WL_nil)
 | (apply thenQ_normal)
 | (apply WL_on0; eq_refl)
 | (apply X_pv; eq_refl; first | exact trivial | omega)
 | (apply X_box; eq_refl))
  generalize hr : (goSym c c.symbols 0 fun _ _ => 0) = r
  refine WC_loop (fun s : Nat × (Int → Int → Int) => [(1, pt w.heap.size), (4, nu s.1)])
    (fun s w1 => Chg w w1 none_ ∧ Blk w1 w.heap.size 29 (ccells c h) ∧ SymF c.symbols s.1 s.2 ∧ s.1 ≤ c.symbols.length ∧ goSym c (c.symbols.drop s.1) s.1 s.2 = r) (fun s => c.symbols.length - s.1) (0, fun _ _ => 0) ⟨rfl, rfl, trivial⟩ ⟨hC, hN, fun p q => ⟨Int.le_refl _, fun hh => absurd hh (Int.lt_irrefl 0), fun ⟨k, hk, hki, _⟩ => absurd hki (Nat.not_lt_zero _)⟩, Nat.zero_le _, hr⟩ ?_
  clear hC hN
  rintro ⟨k, f⟩ w1 ⟨hC1, hN1, hf, hk, hgo⟩
  simp only at hf hk hgo
  rcases Nat.lt_or_ge k c.symbols.length with hlt | hge
  · obtain ⟨p, hp, hc⟩ := H.symbols k hlt
    have hbad := fun hb => goSym_bad (c := c) (f := f) hlt hb
    have hokk := fun hb => goSym_ok (c := c) (f := f) hlt hb
    have hfn := hf.next hlt
    have hkind := hs.kinds _ (List.getElem_mem hlt)
    have hnm := hs.names _ (List.getElem_mem hlt)
    generalize hx : c.symbols[k] = s at *
    have e6 : (ccells c h)[0 + 9]? = some (.slice (some p) c.symbols.length (h 9).2) := by rw [← hp]; rfl
    repeat' (first
 | (apply X_loadR; eq_refl; exact hN1; exact e6)
 | (apply X_loadAP (scells s); eq_refl; eq_refl; exact (fun j u hj => cel_chg (hc j u hj) hC1 id))
 | (apply WC_seqK; intro K hK)
 | (apply hK; clear hK)
 | (apply WC_block)
 | (apply WC_region)
 | (apply WL_nil)
 | (apply thenQ_normal)
 | (apply WC_skip)
 | (apply WC_if_true; eq_refl)
 | (apply WL_on0; eq_refl)
 | (apply X_pv; eq_refl; first | exact trivial | omega)
 | (apply X_field; eq_refl)
 | (apply X_cmpT; eq_refl; eq_refl; omega)
 | (apply X_len; eq_refl)
 | (apply X_indexP; eq_refl; eq_refl; omega; omega)
 | (apply X_alloc))
    refine X_doesU (does_storeA (t1 := 151) (vs := scells s) (o := 0) (b := w1.heap.size) (by eq_refl) (by eq_refl) (Blk.newA w1 _ _) rfl (by exact Nat.le_refl 3) (by simp [scells, Value.oneCell'])) ?_
    have hcc : Chg w1 ((w1.alloc (.cells #[.int .u8 0, nu 0, .string ⟨#[]⟩] 151)).setRow w1.heap.size (scells s).toArray) none_ := (Chg.alloc w1 _ none_).trans (Chg.setRow _ w1.heap.size _ (S := fun k => k = w1.heap.size) rfl) fun k hk h => by omega
    refine WL_turn (fun w2 => Chg w w2 none_ ∧ Blk w2 w.heap.size 29 (ccells c h) ∧ Blk w2 w1.heap.size 151 (scells s)) ⟨hC1.trans hcc fun _ _ h => h, hN1.chg hcc id, (Blk.newA w1 _ 151).set (scells s)⟩ ?_
    clear hcc hC1 hN1
    generalize w1.heap.size = b5
    rintro w2 ⟨hC2, hN2, hS2⟩
    repeat' (first
 | (apply WC_midB 2 [(1, pt w.heap.size), (4, nu k), (5, pt b5), (6, nu (manyM c s.kind))] (fun W => W = w2))
 | (apply WC_seqK; intro K hK)
 | (apply hK; clear hK)
 | (apply WC_block)
 | (apply WC_region)
 | (apply WL_nil)
 | (apply thenQ_normal)
 | (apply blockQ_normal)
 | (apply WC_skip)
 | (apply WC_if_true; eq_refl)
 | (apply WC_if_false; eq_refl)
 | (apply WL_on0; eq_refl)
 | (apply X_pv; eq_refl; first | exact trivial | omega)
 | (apply X_field; eq_refl)
 | (apply X_loadR; eq_refl; (first | assumption | (apply Blk.alloc; assumption) | apply Blk.new | apply Blk.newA | (apply Blk.alloc; first | apply Blk.newA | (apply Blk.alloc; first | assumption | apply Blk.newA))); eq_refl)
 | (apply X_cmp; eq_refl; eq_refl; all_goals intro _)
 | (apply X_len; eq_refl))
    any_goals (refine ⟨rfl, ⟨rfl, rfl, rfl, congrArg (fun z => some (nu z)) ?_, trivial⟩, rfl⟩; unfold manyM; repeat (first | rw [if_pos (by assumption)] | rw [if_neg (by assumption)]))
    refine ⟨?_⟩
    rintro _ rfl
    obtain ⟨ok0, hok0⟩ : ∃ b : Bool, b = true ↔ (0 ≤ s.at_ ∧ s.at_ < manyM c s.kind ∧ 1 ≤ s.name.size ∧ s.name.size ≤ 64) := ⟨decide _, decide_eq_true_iff⟩
    generalize hM : manyM c s.kind = M at *
    rename_i w2
    repeat' (first
 | (apply WC_midR 21 [(1, pt w.heap.size), (4, nu k), (5, pt b5), (7, .bool ok0)] (fun W => W = w2))
 | (apply WC_region)
 | (apply WL_nil)
 | (apply WL_on0; eq_refl)
 | (apply WL_onG; eq_refl; eq_refl; eq_refl; eq_refl)
 | (apply WL_noG; eq_refl; eq_refl; eq_refl; eq_refl)
 | (apply X_pv; eq_refl; first | exact trivial | omega)
 | (apply X_field; eq_refl)
 | (apply X_loadR; eq_refl; (first | assumption | (apply Blk.alloc; assumption) | apply Blk.new | apply Blk.newA | (apply Blk.alloc; first | apply Blk.newA | (apply Blk.alloc; first | assumption | apply Blk.newA))); eq_refl)
 | (apply X_cmp; eq_refl; eq_refl; all_goals intro _)
 | (apply X_lenS; eq_refl))
    any_goals (refine ⟨rfl, ⟨rfl, rfl, rfl, congrArg (fun z => some (Value.bool z)) ?_, trivial⟩, rfl⟩; first | (exact (hok0.2 (by omega)).symm) | (exact (Bool.eq_false_iff.2 fun hh => by have := hok0.1 hh; omega).symm))
    refine ⟨?_⟩
    rintro _ rfl
    rename_i w2
    obtain ⟨ok1, hok1⟩ : ∃ b : Bool, b = true ↔ (ok0 = true ∧ ¬ lowName s.name) := by classical exact ⟨decide _, decide_eq_true_iff⟩
    repeat' (first
 | (apply WC_midB 3 [(1, pt w.heap.size), (4, nu k), (5, pt b5), (7, .bool ok1)] (fun W => W = w2))
 | (apply WC_seqK; intro K hK)
 | (apply hK; clear hK)
 | (apply WC_block)
 | (apply WC_region)
 | (apply WL_nil)
 | (apply thenQ_normal)
 | (apply WL_on0; eq_refl)
 | (apply X_pv; eq_refl; first | exact trivial | omega))
    · refine WC_loop (fun q : Nat × Bool => [(1, pt w.heap.size), (4, nu k), (5, pt b5), (7, .bool q.2), (8, nu q.1)])
        (fun q W => W = w2 ∧ q.1 ≤ s.name.size ∧ (q.2 = true → ok0 = true ∧ ∀ i, i < q.1 → ¬ byteAt s.name i < 32) ∧ (q.2 = false → ok0 = false ∨ lowName s.name)) (fun q => s.name.size - q.1) (0, ok0) ⟨rfl, rfl, rfl, rfl, rfl, trivial⟩ ⟨rfl, Nat.zero_le _, fun h => ⟨h, fun i hi => absurd hi (Nat.not_lt_zero _)⟩, fun h => .inl h⟩ ?_
      rintro ⟨j, ok⟩ w3 ⟨rfl, hj, hT, hF⟩
      simp only at hj hT hF
      cases ok with
      | false =>
        have e1 : false = ok1 := (Bool.eq_false_iff.2 fun hh => by
          obtain ⟨h1, h2⟩ := hok1.1 hh
          rcases hF rfl with g | g
          · rw [g] at h1; cases h1
          · exact h2 g).symm
        repeat' (first
 | (apply WC_seqK; intro K hK)
 | (apply hK; clear hK)
 | (apply WC_region)
 | (apply WL_nil)
 | (apply thenQ_normal)
 | (apply thenQ_exit)
 | (apply blockQ_hit)
 | (apply WC_exit)
 | (apply WC_if_false; eq_refl)
 | (apply WL_on0; eq_refl)
 | (apply WL_noG; eq_refl; eq_refl; eq_refl; eq_refl)
 | (apply X_pv; eq_refl; first | exact trivial | omega))
        exact ⟨rfl, ⟨rfl, rfl, rfl, congrArg (fun z => some (Value.bool z)) e1, trivial⟩, rfl⟩
      | true =>
        obtain ⟨hT1, hT2⟩ := hT rfl
        rcases Nat.lt_or_ge j s.name.size with hjl | hjg
        · repeat' (first
 | (apply X_idxS; eq_refl; eq_refl; omega)
 | (apply WC_seqK; intro K hK)
 | (apply hK; clear hK)
 | (apply WC_block)
 | (apply WC_region)
 | (apply WL_nil)
 | (apply thenQ_normal)
 | (apply blockQ_normal)
 | (apply WC_skip)
 | (apply WC_if_true; eq_refl)
 | (apply WL_on0; eq_refl)
 | (apply WL_onG; eq_refl; eq_refl; eq_refl; eq_refl)
 | (apply X_pv; eq_refl; first | exact trivial | omega)
 | (apply X_field; eq_refl)
 | (apply X_loadR; eq_refl; (first | assumption | (apply Blk.alloc; assumption) | apply Blk.new | apply Blk.newA | (apply Blk.alloc; first | apply Blk.newA | (apply Blk.alloc; first | assumption | apply Blk.newA))); eq_refl)
 | (apply X_cmpT; eq_refl; eq_refl; omega)
 | (apply X_cmp; eq_refl; eq_refl; all_goals intro _)
 | (apply X_lenS; eq_refl))
          · rename_i hb9
            have hb9 : 32 ≤ byteAt s.name j := hb9
            exact ⟨(j + 1, true), ⟨rfl, rfl, rfl, rfl, rfl, trivial⟩, ⟨rfl, hjl, fun _ => ⟨hT1, fun i hi => by
              rcases Nat.lt_or_ge i j with hh | hh
              · exact hT2 i hh
              · obtain rfl : i = j := by omega
                omega⟩, fun h => (by cases h)⟩, by simp only; omega⟩
          · rename_i hb9
            have hb9 : ¬ 32 ≤ byteAt s.name j := hb9
            exact ⟨(j + 1, false), ⟨rfl, rfl, rfl, rfl, rfl, trivial⟩, ⟨rfl, hjl, fun h => (by cases h), fun _ => .inr ⟨j, hjl, by omega⟩⟩, by simp only; omega⟩
        · have e1 : true = ok1 := (hok1.2 ⟨hT1, fun ⟨i, hi, hb⟩ => hT2 i (by omega) hb⟩).symm
          repeat' (first
 | (apply WC_seqK; intro K hK)
 | (apply hK; clear hK)
 | (apply WC_region)
 | (apply WL_nil)
 | (apply thenQ_normal)
 | (apply thenQ_exit)
 | (apply blockQ_hit)
 | (apply WC_exit)
 | (apply WC_if_false; eq_refl)
 | (apply WL_on0; eq_refl)
 | (apply WL_onG; eq_refl; eq_refl; eq_refl; eq_refl)
 | (apply X_pv; eq_refl; first | exact trivial | omega)
 | (apply X_field; eq_refl)
 | (apply X_loadR; eq_refl; (first | assumption | (apply Blk.alloc; assumption) | apply Blk.new | apply Blk.newA | (apply Blk.alloc; first | apply Blk.newA | (apply Blk.alloc; first | assumption | apply Blk.newA))); eq_refl)
 | (apply X_cmpF; eq_refl; eq_refl; omega)
 | (apply X_lenS; eq_refl))
          exact ⟨rfl, ⟨rfl, rfl, rfl, congrArg (fun z => some (Value.bool z)) e1, trivial⟩, rfl⟩
    refine ⟨?_⟩
    rintro _ rfl
    rename_i w2
    obtain ⟨ok2, hok2⟩ : ∃ b : Bool, b = true ↔ (ok1 = true ∧ ∀ q (hq : q < c.symbols.length), q < k → ¬ (c.symbols[q].kind = s.kind ∧ c.symbols[q].at_ = s.at_)) := by classical exact ⟨decide _, decide_eq_true_iff⟩
    repeat' (first
 | (apply WC_midB 5 [(1, pt w.heap.size), (4, nu k), (5, pt b5), (7, .bool ok2)] (fun W => Chg w W none_ ∧ Blk W w.heap.size 29 (ccells c h)))
 | (apply WC_seqK; intro K hK)
 | (apply hK; clear hK)
 | (apply WC_block)
 | (apply WC_region)
 | (apply WL_nil)
 | (apply thenQ_normal)
 | (apply WL_on0; eq_refl)
 | (apply X_pv; eq_refl; first | exact trivial | omega))
    · refine WC_loop (fun q : Nat × Bool => [(1, pt w.heap.size), (4, nu k), (5, pt b5), (7, .bool q.2), (9, nu q.1)])
        (fun q W => (Chg w W none_ ∧ Blk W w.heap.size 29 (ccells c h) ∧ Blk W b5 151 (scells s)) ∧ q.1 ≤ k ∧ (q.2 = true → ok1 = true ∧ ∀ i (hi : i < c.symbols.length), i < q.1 → ¬ (c.symbols[i].kind = s.kind ∧ c.symbols[i].at_ = s.at_)) ∧ (q.2 = false → ok1 = false ∨ ∃ i, ∃ hi : i < c.symbols.length, i < k ∧ c.symbols[i].kind = s.kind ∧ c.symbols[i].at_ = s.at_)) (fun q => k - q.1) (0, ok1) ⟨rfl, rfl, rfl, rfl, rfl, trivial⟩ ⟨⟨hC2, hN2, hS2⟩, Nat.zero_le _, fun h => ⟨h, fun i _ hi => absurd hi (Nat.not_lt_zero _)⟩, fun h => .inl h⟩ ?_
      rintro ⟨j, ok⟩ w3 ⟨⟨hC3, hN3, hS3⟩, hj, hT, hF⟩
      simp only at hj hT hF
      cases ok with
      | false =>
        have e1 : false = ok2 := (Bool.eq_false_iff.2 fun hh => by
          obtain ⟨h1, h2⟩ := hok2.1 hh
          rcases hF rfl with g | ⟨i, hi, g1, g2⟩
          · rw [g] at h1; cases h1
          · exact h2 i hi g1 g2).symm
        repeat' (first
 | (apply WC_seqK; intro K hK)
 | (apply hK; clear hK)
 | (apply WC_region)
 | (apply WL_nil)
 | (apply thenQ_normal)
 | (apply thenQ_exit)
 | (apply blockQ_hit)
 | (apply WC_exit)
 | (apply WC_if_false; eq_refl)
 | (apply WL_on0; eq_refl)
 | (apply WL_noG; eq_refl; eq_refl; eq_refl; eq_refl)
 | (apply X_pv; eq_refl; first | exact trivial | omega))
        exact ⟨rfl, ⟨rfl, rfl, rfl, congrArg (fun z => some (Value.bool z)) e1, trivial⟩, hC3, hN3⟩
      | true =>
        obtain ⟨hT1, hT2⟩ := hT rfl
        rcases Nat.lt_or_ge j k with hjl | hjg
        · have hjs : j < c.symbols.length := by omega
          obtain ⟨p2, hp2, hc2⟩ := H.symbols j hjs
          rw [hp] at hp2
          cases hp2
          have hT3 := hT2
          generalize hy : c.symbols[j] = y at *
          repeat' (first
 | (apply WC_seqK; intro K hK)
 | (apply hK; clear hK)
 | (apply WC_block)
 | (apply WC_region)
 | (apply WL_nil)
 | (apply thenQ_normal)
 | (apply WC_skip)
 | (apply WC_if_true; eq_refl)
 | (apply WL_on0; eq_refl)
 | (apply WL_onG; eq_refl; eq_refl; eq_refl; eq_refl)
 | (apply X_pv; eq_refl; first | exact trivial | omega)
 | (apply X_cmpT; eq_refl; eq_refl; omega))
          refine WC_draws [(0, true), (1, true), (2, true), (3, true), (4, true), (5, true), (6, true), (7, true), (8, true), (9, true), (10, true), (11, true), (12, true), (13, true), (14, true), (15, true), (16, true), (17, true), (18, true), (19, true), (20, true)] (fun W => Chg w W none_ ∧ Blk W w.heap.size 29 (ccells c h) ∧ Blk W b5 151 (scells s)) mixed (by kernel_rfl) (by kernel_rfl) ?_
          have hS : Chg w w3.drew none_ ∧ Blk w3.drew w.heap.size 29 (ccells c h) ∧ Blk w3.drew b5 151 (scells s) := ⟨hC3.dr, hN3, hS3⟩
          by_cases hkk : y.kind = s.kind
          · by_cases haa : y.at_ = s.at_
            · repeat' (first
 | (apply O_loadR; eq_refl; (exact fun _ h => h.2.1); exact e6; assumption)
 | (apply O_loadR; eq_refl; (exact fun _ h => h.2.2); eq_refl; assumption)
 | (apply O_loadC; eq_refl; (exact fun W h => cel_chg (hc2 0 _ rfl) h.1 id); assumption)
 | (apply O_loadC; eq_refl; (exact fun W h => cel_chg (hc2 1 _ rfl) h.1 id); assumption)
 | (apply hK; clear hK)
 | (apply WC_region)
 | (apply WL_nil)
 | (apply thenQ_normal)
 | (apply blockQ_normal)
 | (apply WS_nil)
 | (apply WS_next; eq_refl)
 | (apply WO_on0; eq_refl)
 | (apply WO_onG; eq_refl; eq_refl; eq_refl; eq_refl)
 | (apply O_pv; eq_refl; (first | exact trivial | omega); (first | assumption | exact trivial))
 | (apply O_field; eq_refl; (first | assumption | exact trivial))
 | (apply O_cmpF; eq_refl; eq_refl; omega; (first | assumption | exact trivial))
 | (apply O_indexP; eq_refl; eq_refl; omega; omega; (first | assumption | exact trivial))
 | (apply O_fieldP; eq_refl; (first | assumption | exact trivial))
 | (apply WL_on0; eq_refl)
 | (apply X_pv; eq_refl; first | exact trivial | omega))
              exact ⟨(j + 1, false), ⟨rfl, rfl, rfl, rfl, rfl, trivial⟩, ⟨hS, hjl, fun h => (by cases h), fun _ => .inr ⟨j, hjs, hjl, by rw [hy]; exact ⟨hkk, haa⟩⟩⟩, by simp only; omega⟩
            · repeat' (first
 | (apply O_loadR; eq_refl; (exact fun _ h => h.2.1); exact e6; assumption)
 | (apply O_loadR; eq_refl; (exact fun _ h => h.2.2); eq_refl; assumption)
 | (apply O_loadC; eq_refl; (exact fun W h => cel_chg (hc2 0 _ rfl) h.1 id); assumption)
 | (apply O_loadC; eq_refl; (exact fun W h => cel_chg (hc2 1 _ rfl) h.1 id); assumption)
 | (apply hK; clear hK)
 | (apply WC_region)
 | (apply WL_nil)
 | (apply thenQ_normal)
 | (apply blockQ_normal)
 | (apply WS_nil)
 | (apply WS_next; eq_refl)
 | (apply WO_on0; eq_refl)
 | (apply WO_onG; eq_refl; eq_refl; eq_refl; eq_refl)
 | (apply O_pv; eq_refl; (first | exact trivial | omega); (first | assumption | exact trivial))
 | (apply O_field; eq_refl; (first | assumption | exact trivial))
 | (apply O_cmpT; eq_refl; eq_refl; omega; (first | assumption | exact trivial))
 | (apply O_cmpF; eq_refl; eq_refl; omega; (first | assumption | exact trivial))
 | (apply O_indexP; eq_refl; eq_refl; omega; omega; (first | assumption | exact trivial))
 | (apply O_fieldP; eq_refl; (first | assumption | exact trivial))
 | (apply WL_on0; eq_refl)
 | (apply X_pv; eq_refl; first | exact trivial | omega))
              refine ⟨(j + 1, true), ⟨rfl, rfl, rfl, rfl, rfl, trivial⟩, ⟨hS, hjl, fun _ => ⟨hT1, fun i hi hij => ?_⟩, fun h => (by cases h)⟩, by simp only; omega⟩
              rcases Nat.lt_or_ge i j with hh | hh
              · exact hT3 i hi hh
              · obtain rfl : i = j := by omega
                rw [hy]; exact fun hh => haa hh.2
          · repeat' (first
 | (apply O_loadR; eq_refl; (exact fun _ h => h.2.1); exact e6; assumption)
 | (apply O_loadR; eq_refl; (exact fun _ h => h.2.2); eq_refl; assumption)
 | (apply O_loadC; eq_refl; (exact fun W h => cel_chg (hc2 0 _ rfl) h.1 id); assumption)
 | (apply hK; clear hK)
 | (apply WC_region)
 | (apply WL_nil)
 | (apply thenQ_normal)
 | (apply blockQ_normal)
 | (apply WS_nil)
 | (apply WS_next; eq_refl)
 | (apply WO_on0; eq_refl)
 | (apply WO_noG; eq_refl; eq_refl; eq_refl; eq_refl; (first | assumption | exact trivial))
 | (apply O_pv; eq_refl; (first | exact trivial | omega); (first | assumption | exact trivial))
 | (apply O_field; eq_refl; (first | assumption | exact trivial))
 | (apply O_cmpT; eq_refl; eq_refl; omega; (first | assumption | exact trivial))
 | (apply O_indexP; eq_refl; eq_refl; omega; omega; (first | assumption | exact trivial))
 | (apply O_fieldP; eq_refl; (first | assumption | exact trivial))
 | (apply WL_on0; eq_refl)
 | (apply X_pv; eq_refl; first | exact trivial | omega))
            refine ⟨(j + 1, true), ⟨rfl, rfl, rfl, rfl, rfl, trivial⟩, ⟨hS, hjl, fun _ => ⟨hT1, fun i hi hij => ?_⟩, fun h => (by cases h)⟩, by simp only; omega⟩
            rcases Nat.lt_or_ge i j with hh | hh
            · exact hT3 i hi hh
            · obtain rfl : i = j := by omega
              rw [hy]; exact fun hh => hkk hh.1
        · have e1 : true = ok2 := (hok2.2 ⟨hT1, fun i hi hik => hT2 i hi (by omega)⟩).symm
          repeat' (first
 | (apply WC_seqK; intro K hK)
 | (apply hK; clear hK)
 | (apply WC_region)
 | (apply WL_nil)
 | (apply thenQ_normal)
 | (apply thenQ_exit)
 | (apply blockQ_hit)
 | (apply WC_exit)
 | (apply WC_if_false; eq_refl)
 | (apply WL_on0; eq_refl)
 | (apply WL_onG; eq_refl; eq_refl; eq_refl; eq_refl)
 | (apply X_pv; eq_refl; first | exact trivial | omega)
 | (apply X_cmpF; eq_refl; eq_refl; omega))
          exact ⟨rfl, ⟨rfl, rfl, rfl, congrArg (fun z => some (Value.bool z)) e1, trivial⟩, hC3, hN3⟩
    refine ⟨?_⟩
    rintro w4 ⟨hC4, hN4⟩
    have hsb : ok2 = true ↔ ¬ symBad c f s := by
      rw [hok2, hok1, hok0]
      have hsz : s.name = ByteArray.empty ↔ s.name.size = 0 := ⟨fun h => by rw [h]; rfl, fun h => ByteArray.size_eq_zero_iff.1 h⟩
      have hff : 0 < f s.kind s.at_ ↔ ∃ q, ∃ hq : q < c.symbols.length, q < k ∧ c.symbols[q].kind = s.kind ∧ c.symbols[q].at_ = s.at_ := (hf _ _).2
      unfold symBad
      rw [hM, hff, hsz]
      constructor
      · rintro ⟨⟨⟨h1, h2, h3, h4⟩, h5⟩, h6⟩ (g | g | g | g | ⟨q, hq, g1, g2⟩ | g)
        · omega
        · omega
        · omega
        · omega
        · exact h6 q hq g1 g2
        · exact h5 g
      · intro hb
        refine ⟨⟨⟨?_, ?_, ?_, ?_⟩, fun g => hb (.inr (.inr (.inr (.inr (.inr g)))))⟩, fun q hq g1 g2 => hb (.inr (.inr (.inr (.inr (.inl ⟨q, hq, g1, g2⟩)))))⟩
        · exact Int.not_lt.1 fun g => hb (.inl g)
        · exact Int.not_le.1 fun g => hb (.inr (.inl g))
        · exact Nat.pos_of_ne_zero fun g => hb (.inr (.inr (.inl g)))
        · exact Nat.not_lt.1 fun g => hb (.inr (.inr (.inr (.inl g))))
    cases ok2 with
    | false =>
      have hb : symBad c f s := Classical.byContradiction fun g => by have := hsb.2 g; cases this
      rw [hbad hb] at hgo
      repeat' (first
 | (apply WC_seqK; intro K hK)
 | (apply hK; clear hK)
 | (apply WC_region)
 | (apply WL_nil)
 | (apply thenQ_normal)
 | (apply thenQ_ret)
 | (apply blockQ_ret)
 | (apply WC_ret)
 | (apply WC_if_true; eq_refl)
 | (apply ret2; eq_refl; eq_refl)
 | (apply WL_on0; eq_refl)
 | (apply X_pv; eq_refl; first | exact trivial | omega))
      refine ⟨?_, hC4⟩
      first | rw [if_pos (by omega), if_pos (by omega), hgo] | rw [hr, if_pos (by omega), if_pos (by omega), hgo]
    | true =>
      rw [hokk (hsb.1 rfl)] at hgo
      repeat' (first
 | (apply WC_seqK; intro K hK)
 | (apply hK; clear hK)
 | (apply WC_region)
 | (apply WL_nil)
 | (apply thenQ_normal)
 | (apply blockQ_normal)
 | (apply WC_skip)
 | (apply WC_if_false; eq_refl)
 | (apply WL_on0; eq_refl)
 | (apply X_pv; eq_refl; first | exact trivial | omega))
      exact ⟨(k + 1, _), ⟨rfl, rfl, trivial⟩, ⟨hC4, hN4, hfn, hlt, hgo⟩, by simp only; omega⟩
  · rw [List.drop_eq_nil_of_le hge] at hgo
    have e : r = -1 := hgo.symm
    repeat' (first
 | (apply WC_seqK; intro K hK)
 | (apply hK; clear hK)
 | (clear hK; apply hK; clear hK)
 | (apply WC_region)
 | (apply WL_nil)
 | (apply thenQ_normal)
 | (apply thenQ_exit)
 | (apply blockQ_hit)
 | (apply WC_ret)
 | (apply WC_exit)
 | (apply WC_if_false; eq_refl)
 | (apply ret2; eq_refl; eq_refl)
 | (apply WL_on0; eq_refl)
 | (apply X_pv; eq_refl; first | exact trivial | omega)
 | (apply X_field; eq_refl)
 | (apply X_loadR; eq_refl; (first | assumption | (apply Blk.alloc; assumption) | apply Blk.new | apply Blk.newA | (apply Blk.alloc; first | apply Blk.newA | (apply Blk.alloc; first | assumption | apply Blk.newA))); eq_refl)
 | (apply X_cmpF; eq_refl; eq_refl; omega)
 | (apply X_len; eq_refl))
    exact ⟨by rw [hr, e, if_neg (by decide), if_neg (by decide)], hC1⟩
end SC
end Go.Proofs.Ytbmngkdnebklpaa
end
section
/- trestleref03: Check. -/
set_option linter.unusedVariables false
set_option linter.unusedSimpArgs false
namespace Go.Proofs.Ytbmngkdnebklpaa
namespace SC
open Go.Proofs
theorem mem_bytesI {s : ByteArray} {x : Int} : x ∈ bytesI s ↔ ∃ k, k < s.size ∧ byteAt s k = x := by
  have hl : (bytesI s).length = s.size := bytesI_len s
  have hb : ∀ k, byteAt s k = (bytesI s).getD k 0 := fun k => rfl
  constructor
  · intro h
    obtain ⟨k, hk, rfl⟩ := List.mem_iff_getElem.1 h
    exact ⟨k, by omega, by rw [hb]; simp [hk]⟩
  · rintro ⟨k, hk, rfl⟩
    have hk' : k < (bytesI s).length := by omega
    rw [hb, List.getD_eq_getElem?_getD, List.getElem?_eq_getElem hk']
    exact List.getElem_mem hk'
attribute [local irreducible] WC WL WX WS WO OX Does DoesU Enters CV Pure thenQ blockQ retQ Wants retQC
set_option maxRecDepth 100000
theorem checkRef_cv {w : World} {c : Circ} {h js : Hd} (H : CirAt w c h js) (hs : c.Sane) (ho : c.Okay) (hf : c.Fits) : CV Try.prog 50 [.agg (ccells c h).toArray] w fun v w' => v = .tuple #[nu (lookM c).1, nu (lookM c).2] ∧ Chg w w' none_ := by
  have hI0 : Blk (w.alloc (.cells (ccells c h).toArray 29)) w.heap.size 29 (ccells c h) := Blk.new w _ _
  have hC0 := Chg.alloc w (.cells (ccells c h).toArray 29) none_
  have hsz := size_cv (H.chg hC0) hf ho
  refine enter 97 [2, 3] Try.func50 rfl rfl rfl (by decide) rfl ?_
  repeat' (first
 | (apply X_fn; eq_refl; exact hsz; rintro _ w1 ⟨rfl, hC1⟩; have hI1 := hI0.chg hC1 id; have hC1' := hC0.trans hC1 fun _ _ h => h)
 | (apply WC_seqK; intro K hK)
 | (apply hK; clear hK)
 | (apply WC_region)
 | (apply WL_nil)
 | (apply thenQ_normal)
 | (apply thenQ_ret)
 | (apply WC_ret)
 | (apply WC_skip)
 | (apply WC_if_true; eq_refl)
 | (apply WC_if_false; eq_refl)
 | (apply ret2; eq_refl; eq_refl)
 | (apply WL_on0; eq_refl)
 | (apply X_pv; eq_refl; first | exact trivial | omega)
 | (apply X_loadW; eq_refl; (first | assumption | (apply Blk.alloc; assumption) | apply Blk.new | apply Blk.newA | (apply Blk.alloc; first | apply Blk.newA | (apply Blk.alloc; first | assumption | apply Blk.newA))); eq_refl)
 | (apply X_cmp; eq_refl; eq_refl; all_goals intro _)
 | (apply X_box; eq_refl))
  · exact ⟨by unfold lookM; rw [if_pos (by assumption)], hC1'⟩
  have hz : sizesM c = 0 := Classical.byContradiction (by assumption)
  obtain ⟨hm0, hm1, hln, hsum⟩ := sizesM_ok hz
  have hdf := defined_cv (H.chg hC1') ho ⟨hm0, hm1⟩
  have hl1 : lookM c = if (definesM c (T0 c)).1.2 ≠ 0 then (definesM c (T0 c)).1
    else if (usesM c (tabM c)).2 ≠ 0 then usesM c (tabM c)
    else if 0 ≤ cycM c.ands.length (gateB (tabM c) c) then (cycM c.ands.length (gateB (tabM c) c), 34)
    else if 0 ≤ goSym c c.symbols 0 (fun _ _ => 0) then (goSym c c.symbols 0 (fun _ _ => 0), 35)
    else if 0 ≤ goCom c.comments 0 then (goCom c.comments 0, 36)
    else (0, 0) := by unfold lookM; rw [if_neg (by assumption)]
  repeat' (first
 | (apply X_fn; eq_refl; exact hdf; rintro _ w2 ⟨hC2, ⟨hd, rfl⟩ | ⟨hd, b, n, hb0, hn, hnl, rfl, hB2⟩⟩)
 | (apply WC_seqK; intro K hK)
 | (apply hK; clear hK)
 | (apply WC_region)
 | (apply WL_nil)
 | (apply thenQ_normal)
 | (apply thenQ_ret)
 | (apply WC_ret)
 | (apply WC_skip)
 | (apply WC_if_true; eq_refl)
 | (apply WC_if_false; eq_refl)
 | (apply ret2; eq_refl; eq_refl)
 | (apply WL_on0; eq_refl)
 | (apply X_pv; eq_refl; first | exact trivial | omega)
 | (apply X_cmpT; eq_refl; eq_refl; omega)
 | (apply X_cmpF; eq_refl; eq_refl; omega))
  · exact ⟨by rw [hl1, if_pos hd], hC1'.trans hC2 fun _ _ h => h⟩
  rw [if_neg (fun hh => hh hd)] at hl1
  have hTO : TabOk c (tabM c) := definesM_spec hm0 hd
  have hC2' := hC1'.trans hC2 fun _ _ h => h
  have hI2 := hI1.chg hC2 id
  have hus := uses_cv' (H.chg hC2') ho ⟨hm0, hm1⟩ hB2 (by rw [hnl]; exact hn) hnl.symm
  repeat' (first
 | (apply X_fn; eq_refl; exact hus; rintro _ w3 ⟨rfl, hC3⟩; have hI3 := hI2.chg hC3 id; have hC3' := hC2'.trans hC3 fun _ _ h => h)
 | (apply WC_seqK; intro K hK)
 | (apply hK; clear hK)
 | (apply WC_region)
 | (apply WL_nil)
 | (apply thenQ_normal)
 | (apply thenQ_ret)
 | (apply WC_ret)
 | (apply WC_skip)
 | (apply WC_if_true; eq_refl)
 | (apply WC_if_false; eq_refl)
 | (apply ret2; eq_refl; eq_refl)
 | (apply WL_on0; eq_refl)
 | (apply X_pv; eq_refl; first | exact trivial | omega)
 | (apply X_loadW; eq_refl; (first | assumption | (apply Blk.alloc; assumption) | apply Blk.new | apply Blk.newA | (apply Blk.alloc; first | apply Blk.newA | (apply Blk.alloc; first | assumption | apply Blk.newA))); eq_refl)
 | (apply X_cmp; eq_refl; eq_refl; all_goals intro _))
  · exact ⟨by rw [hl1, if_pos (by assumption)], hC3'⟩
  have hu0 : (usesM c (tabM c)).2 = 0 := Classical.byContradiction (by assumption)
  rw [if_neg (fun hh => hh hu0)] at hl1
  have hUA := usesM_spec.1 hu0
  have hna : c.ands.length ≤ 16384 := by have := hln (c.ands.length : Int) (by simp [Circ.lens]); omega
  have hB := hTO.below hUA
  clear hus hdf hsz hB2
  refine WC_draws [(0, true), (3, true), (4, true), (5, true), (1, false), (2, true), (6, true)] (fun W => Chg w W none_ ∧ Blk W w.heap.size 29 (ccells c h)) mixed (by kernel_rfl) (by kernel_rfl) ?_
  have hS : Chg w w3.drew none_ ∧ Blk w3.drew w.heap.size 29 (ccells c h) := ⟨hC3'.dr, hI3⟩
  have htd := told_cv (H.chg hS.1) hTO hUA ⟨hm0, hm1⟩ hna
  repeat' (first
 | (apply O_loadW; eq_refl; (exact fun _ h => h.2); eq_refl; assumption)
 | (apply O_loadR; eq_refl; (exact fun _ h => h.2); eq_refl; assumption)
 | (apply O_fn; eq_refl; exact htd; rintro v4 w4 ⟨hC4, out, hall, hrow⟩; obtain ⟨A4, cp4, rfl⟩ := row_form' hrow; have hS4 : Chg w w4 none_ ∧ Blk w4 w.heap.size 29 (ccells c h) := ⟨hS.1.trans hC4 fun k hk hh => hh, hS.2.chg hC4 id⟩; have hol := hall.told.size; refine ⟨fun _ => hS4, ?_⟩)
 | (apply WC_seqK; intro K hK)
 | (apply hK; clear hK)
 | (apply WC_region)
 | (apply thenQ_normal)
 | (apply WC_skip)
 | (apply WC_if_true; eq_refl)
 | (apply WC_if_false; eq_refl)
 | (apply WS_nil)
 | (apply WS_next; eq_refl)
 | (apply WO_on0; eq_refl)
 | (apply O_field; eq_refl; (first | assumption | exact trivial))
 | (apply O_cmp; eq_refl; eq_refl; (first | assumption | exact trivial); all_goals intro _)
 | (apply O_len; eq_refl; (first | assumption | exact trivial))
 | (apply WL_on0; eq_refl))
  all_goals obtain ⟨hC4', hI4⟩ := hS4
  · have hlt0 : out.length < c.ands.length := by omega
    have hgt := gates80_cv (H.chg hC4') hTO ⟨hm0, hm1⟩ hna
    repeat' (first
 | (apply X_fn; eq_refl; exact hgt; rintro _ w5 ⟨rfl, hG5, hC5⟩; have hI5 := hI4.chg hC5 id; have hC5' := hC4'.trans hC5 fun _ _ h => h)
 | (apply WC_seqK; intro K hK)
 | (apply hK; clear hK)
 | (apply WC_block)
 | (apply WC_region)
 | (apply WL_nil)
 | (apply thenQ_normal)
 | (apply WL_on0; eq_refl)
 | (apply X_pv; eq_refl; first | exact trivial | omega)
 | (apply X_loadW; eq_refl; (first | assumption | (apply Blk.alloc; assumption) | apply Blk.new | apply Blk.newA | (apply Blk.alloc; first | apply Blk.newA | (apply Blk.alloc; first | assumption | apply Blk.newA))); eq_refl))
    generalize w4.heap.size + 1 = g at *
    refine WC_loop (fun i : Nat => [(1, pt w.heap.size), (10, .slice (some ⟨g, 0, none⟩) (gatesM c).length (gatesM c).length), (11, nu i)])
      (fun i W => Chg w W none_ ∧ Blk W w.heap.size 29 (ccells c h) ∧ Blk W g 3 ((gatesM c).map nu) ∧ i ≤ c.ands.length ∧ ∀ j, rg c.ands.length j → j < (i : Int) → ¬ Hangs (gateB (tabM c) c) j j) (fun i => c.ands.length - i) 0 ⟨rfl, rfl, rfl, trivial⟩ ⟨hC5', hI5, hG5, Nat.zero_le _, fun j hj hj2 => by unfold rg at hj; omega⟩ ?_
    clear hC5' hI5 hG5 hC5 w5
    rintro i w5 ⟨hC5, hI5, hG5, hi, hno⟩
    rcases Nat.lt_or_ge i c.ands.length with hlt | hge
    · have hri : rg c.ands.length (i : Int) := ⟨by omega, by omega⟩
      have hrd := round_cv (H.chg hC5) hG5 hTO hUA ⟨hm0, hm1⟩ hna hri
      repeat' (first
 | (apply X_fn; eq_refl; exact hrd; rintro _ w6 ⟨b, rfl, hb6, hC6⟩; have hI6 := hI5.chg hC6 id; have hC6' := hC5.trans hC6 fun _ _ h => h; cases b)
 | (apply WC_seqK; intro K hK)
 | (apply hK; clear hK)
 | (apply WC_block)
 | (apply WC_region)
 | (apply WL_nil)
 | (apply thenQ_normal)
 | (apply thenQ_ret)
 | (apply blockQ_ret)
 | (apply blockQ_normal)
 | (apply WC_ret)
 | (apply WC_skip)
 | (apply WC_if_true; eq_refl)
 | (apply WC_if_false; eq_refl)
 | (apply ret2; eq_refl; eq_refl)
 | (apply WL_on0; eq_refl)
 | (apply X_pv; eq_refl; first | exact trivial | omega)
 | (apply X_field; eq_refl)
 | (apply X_loadR; eq_refl; (first | assumption | (apply Blk.alloc; assumption) | apply Blk.new | apply Blk.newA | (apply Blk.alloc; first | apply Blk.newA | (apply Blk.alloc; first | assumption | apply Blk.newA))); eq_refl)
 | (apply X_loadW; eq_refl; (first | assumption | (apply Blk.alloc; assumption) | apply Blk.new | apply Blk.newA | (apply Blk.alloc; first | apply Blk.newA | (apply Blk.alloc; first | assumption | apply Blk.newA))); eq_refl)
 | (apply X_cmpT; eq_refl; eq_refl; omega)
 | (apply X_len; eq_refl))
      · refine ⟨i + 1, ⟨rfl, rfl, rfl, trivial⟩, ⟨hC6', hI6, hG5.chg hC6 id, hlt, fun j hj hji hh => ?_⟩, by omega⟩
        rcases Int.lt_or_le j (i : Int) with h1 | h1
        · exact hno j hj h1 hh
        · have : j = i := by omega
          subst this
          have := hb6.2 hh
          cases this
      · have hcy : CycOf c.ands.length (gateB (tabM c) c) (i : Int) := ⟨out, hall, .inr ⟨hlt0, hri, hb6.1 rfl, hno⟩⟩
        rw [cycM_eq hcy, if_pos (by omega)] at hl1
        exact ⟨by rw [hl1], hC6'⟩
    · obtain ⟨j, hj, hh⟩ := hall.round hB hlt0
      exact absurd hh (hno j hj (by unfold rg at hj; omega))
  have hcy : CycOf c.ands.length (gateB (tabM c) c) (-1) := ⟨out, hall, .inl ⟨by omega, rfl⟩⟩
  rw [cycM_eq hcy, if_neg (by decide)] at hl1
  have hsy := symbols82_cv (H.chg hC4') hs
  by_cases hgs : 0 ≤ goSym c c.symbols 0 fun _ _ => 0
  · rw [if_pos hgs, if_pos hgs] at hsy
    rw [if_pos hgs] at hl1
    repeat' (first
 | (apply X_fn; eq_refl; exact hsy; rintro _ w5 ⟨rfl, hC5⟩)
 | (apply WC_seqK; intro K hK)
 | (apply hK; clear hK)
 | (apply WC_region)
 | (apply WL_nil)
 | (apply thenQ_normal)
 | (apply thenQ_ret)
 | (apply WC_ret)
 | (apply WC_if_true; eq_refl)
 | (apply ret2; eq_refl; eq_refl)
 | (apply WL_on0; eq_refl)
 | (apply X_pv; eq_refl; first | exact trivial | omega)
 | (apply X_loadW; eq_refl; (first | assumption | (apply Blk.alloc; assumption) | apply Blk.new | apply Blk.newA | (apply Blk.alloc; first | apply Blk.newA | (apply Blk.alloc; first | assumption | apply Blk.newA))); eq_refl)
 | (apply X_cmpT; eq_refl; eq_refl; omega))
    exact ⟨by rw [hl1], hC4'.trans hC5 fun _ _ h => h⟩
  rw [if_neg hgs, if_neg hgs] at hsy
  rw [if_neg hgs] at hl1
  repeat' (first
 | (apply X_fn; eq_refl; exact hsy; rintro _ w5 ⟨rfl, hC5⟩; have hI5 := hI4.chg hC5 id; have hC5' := hC4'.trans hC5 fun _ _ h => h)
 | (apply WC_seqK; intro K hK)
 | (apply hK; clear hK)
 | (apply WC_block)
 | (apply WC_region)
 | (apply WL_nil)
 | (apply thenQ_normal)
 | (apply WC_skip)
 | (apply WC_if_false; eq_refl)
 | (apply WL_on0; eq_refl)
 | (apply X_pv; eq_refl; first | exact trivial | omega)
 | (apply X_loadW; eq_refl; (first | assumption | (apply Blk.alloc; assumption) | apply Blk.new | apply Blk.newA | (apply Blk.alloc; first | apply Blk.newA | (apply Blk.alloc; first | assumption | apply Blk.newA))); eq_refl)
 | (apply X_cmpF; eq_refl; eq_refl; omega))
  have hkl := hs.lens.2.2.2.2.2.2.2.2.2
  have htx := hs.texts
  refine WC_loop (fun i : Nat => [(1, pt w.heap.size), (14, nu i)]) (fun i W => Chg w W none_ ∧ Blk W w.heap.size 29 (ccells c h) ∧ i ≤ c.comments.length ∧ goCom (c.comments.drop i) i = goCom c.comments 0) (fun i => c.comments.length - i) 0 ⟨rfl, rfl, trivial⟩ ⟨hC5', hI5, Nat.zero_le _, rfl⟩ ?_
  clear hsy hC5' hI5 hC5 w5
  rintro i w5 ⟨hC5, hI5, hi, hgo⟩
  rcases Nat.lt_or_ge i c.comments.length with hlt | hge
  · obtain ⟨p, hp, hpc⟩ := (H.chg hC5).comments.one hlt (v := .string c.comments[i]) rfl
    rw [goCom_step hlt] at hgo
    have htl := htx _ (List.getElem_mem hlt)
    generalize hx : c.comments[i] = s at *
    have e6 : (ccells c h)[0 + 10]? = some (.slice (some p) c.comments.length (h 10).2) := by rw [← hp]; rfl
    repeat' (first
 | (apply WC_seqK; intro K hK)
 | (apply hK; clear hK)
 | (apply WC_block)
 | (apply WC_region)
 | (apply WL_nil)
 | (apply thenQ_normal)
 | (apply WC_skip)
 | (apply WC_if_true; eq_refl)
 | (apply WL_on0; eq_refl)
 | (apply X_pv; eq_refl; first | exact trivial | omega)
 | (apply X_field; eq_refl)
 | (apply X_loadR; eq_refl; (first | assumption | (apply Blk.alloc; assumption) | apply Blk.new | apply Blk.newA | (apply Blk.alloc; first | apply Blk.newA | (apply Blk.alloc; first | assumption | apply Blk.newA))); eq_refl)
 | (apply X_cmpT; eq_refl; eq_refl; omega)
 | (apply X_len; eq_refl))
    refine WC_loop (fun k : Nat => [(1, pt w.heap.size), (14, nu i), (15, nu k)]) (fun k W => W = w5 ∧ k ≤ s.size ∧ ∀ j, j < k → byteAt s j ≠ 10) (fun k => s.size - k) 0 ⟨rfl, rfl, rfl, trivial⟩ ⟨rfl, Nat.zero_le _, fun j hj => absurd hj (Nat.not_lt_zero _)⟩ ?_
    rintro k w6 ⟨rfl, hk, hall10⟩
    rcases Nat.lt_or_ge k s.size with hkl2 | hkg
    · repeat' (first
 | (apply X_loadR; eq_refl; exact hI5; exact e6)
 | (apply X_loadC; eq_refl; exact hpc)
 | (apply X_idxS; eq_refl; eq_refl; omega)
 | (apply WC_seqK; intro K hK)
 | (apply hK; clear hK)
 | (apply WC_block)
 | (apply WC_region)
 | (apply WL_nil)
 | (apply thenQ_normal)
 | (apply thenQ_ret)
 | (apply blockQ_ret)
 | (apply blockQ_normal)
 | (apply WC_ret)
 | (apply WC_skip)
 | (apply WC_if_true; eq_refl)
 | (apply WC_if_false; eq_refl)
 | (apply ret2; eq_refl; eq_refl)
 | (apply WL_on0; eq_refl)
 | (apply X_pv; eq_refl; first | exact trivial | omega)
 | (apply X_field; eq_refl)
 | (apply X_cmpT; eq_refl; eq_refl; omega)
 | (apply X_cmp; eq_refl; eq_refl; all_goals intro _)
 | (apply X_lenS; eq_refl)
 | (apply X_indexP; eq_refl; eq_refl; omega; omega))
      · rw [if_pos (mem_bytesI.2 ⟨k, hkl2, by assumption⟩)] at hgo
        rw [← hgo, if_pos (by omega)] at hl1
        exact ⟨by rw [hl1], hC5⟩
      · exact ⟨k + 1, ⟨rfl, rfl, rfl, trivial⟩, ⟨rfl, hkl2, fun j hj => by
          rcases Nat.lt_or_ge j k with h1 | h1
          · exact hall10 j h1
          · have : j = k := by omega
            subst this
            assumption⟩, by omega⟩
    · rw [if_neg (fun hh => by
        obtain ⟨j, hj, hj2⟩ := mem_bytesI.1 hh
        exact hall10 j (by omega) hj2)] at hgo
      repeat' (first
 | (apply X_loadR; eq_refl; exact hI5; exact e6)
 | (apply X_loadC; eq_refl; exact hpc)
 | (apply WC_seqK; intro K hK)
 | (apply hK; clear hK)
 | (clear hK; apply hK; clear hK)
 | (apply WC_region)
 | (apply WL_nil)
 | (apply thenQ_normal)
 | (apply thenQ_exit)
 | (apply blockQ_hit)
 | (apply blockQ_normal)
 | (apply WC_exit)
 | (apply WC_if_false; eq_refl)
 | (apply WL_on0; eq_refl)
 | (apply X_pv; eq_refl; first | exact trivial | omega)
 | (apply X_field; eq_refl)
 | (apply X_cmpF; eq_refl; eq_refl; omega)
 | (apply X_lenS; eq_refl)
 | (apply X_indexP; eq_refl; eq_refl; omega; omega))
      exact ⟨i + 1, ⟨rfl, rfl, trivial⟩, ⟨hC5, hI5, hlt, hgo⟩, by omega⟩
  · rw [List.drop_eq_nil_of_le hge] at hgo
    rw [← hgo, if_neg (by simp [goCom])] at hl1
    repeat' (first
 | (apply WC_seqK; intro K hK)
 | (apply hK; clear hK)
 | (clear hK; apply hK; clear hK)
 | (apply WC_region)
 | (apply WL_nil)
 | (apply thenQ_normal)
 | (apply thenQ_exit)
 | (apply blockQ_hit)
 | (apply WC_ret)
 | (apply WC_exit)
 | (apply WC_if_false; eq_refl)
 | (apply ret2; eq_refl; eq_refl)
 | (apply WL_on0; eq_refl)
 | (apply X_pv; eq_refl; first | exact trivial | omega)
 | (apply X_field; eq_refl)
 | (apply X_loadR; eq_refl; (first | assumption | (apply Blk.alloc; assumption) | apply Blk.new | apply Blk.newA | (apply Blk.alloc; first | apply Blk.newA | (apply Blk.alloc; first | assumption | apply Blk.newA))); eq_refl)
 | (apply X_cmpF; eq_refl; eq_refl; omega)
 | (apply X_len; eq_refl))
    exact ⟨by rw [hl1], hC5⟩
end SC
end Go.Proofs.Ytbmngkdnebklpaa
end
section
/- The order of a right circuit; trestleref07: Next0, Starts0, Values0. -/
set_option linter.unusedVariables false
set_option linter.unusedSimpArgs false
namespace Go.Proofs.Ytbmngkdnebklpaa
namespace SC
open Go.Proofs
/-- The order of its gates. -/
noncomputable def ordM (c : Circ) : List Int := by classical exact if h : ∃ out, All c.ands.length (gateB (tabM c) c) out then h.choose else []
theorem ordM_eq {c : Circ} {out : List Int} (h : All c.ands.length (gateB (tabM c) c) out) : ordM c = out := by
  have hex : ∃ out, All c.ands.length (gateB (tabM c) c) out := ⟨out, h⟩
  unfold ordM
  rw [dif_pos hex]
  exact All.only hex.choose_spec h
/-! ### a row that is filled from the left -/
/-- Next, by the values. -/
def nxtM (c : Circ) (v : List Bool) : List Bool := c.latches.map fun x => lv v x.2.1
attribute [local irreducible] WC WL WX WS WO OX Does DoesU Enters CV Pure thenQ blockQ retQ Wants retQC GC GL GS GX RdB thenG blockG retG Rd At gt CVN CVM
set_option maxRecDepth 100000
end SC
end Go.Proofs.Ytbmngkdnebklpaa
end
section
/- A right circuit; its values. trestleref07: Starts0, Values0. -/
set_option linter.unusedVariables false
set_option linter.unusedSimpArgs false
namespace Go.Proofs.Ytbmngkdnebklpaa
namespace SC
open Go.Proofs
theorem CV.ex {P : Program} {f : FuncId} {args : List Value} {w : World} {R : Value → World → Prop} (h : CV P f args w R) : ∃ v w', R v w' := by
  obtain ⟨e, w', fr, h1, _⟩ := h []
  cases e with
  | returned v => exact ⟨v, w', h1⟩
  | panicked c => exact h1.elim
  | outgrown => exact h1.elim
/-- What is so of a right circuit. -/
structure Right (c : Circ) : Prop where
  tab : TabOk c (tabM c)
  use : UseAll c (tabM c)
  m0 : 0 ≤ c.max
  m1 : c.max ≤ 16384
  lens : ∀ n ∈ c.lens, n ≤ 16384
  sum : sumW c.justice ≤ 16384
  all : All c.ands.length (gateB (tabM c) c) (ordM c)
  ordLen : (ordM c).length = c.ands.length
theorem right_of {w : World} {c : Circ} {h js : Hd} (H : CirAt w c h js) (hs : c.Sane) (he : (lookM c).2 = 0) : Right c := by
  obtain ⟨v, w', _, hv⟩ := CV.ex (Order_cv H hs)
  rcases hv with ⟨h1, _⟩ | ⟨_, out, u, _, h2, h3, _⟩
  · exact absurd he h1
  · obtain ⟨_, g1, g2, g3, _⟩ := lookM_ok he
    obtain ⟨k1, k2, k3, k4⟩ := sizesM_ok g1
    have e1 := ordM_eq h2
    exact ⟨definesM_spec k1 g2, usesM_spec.1 g3, k1, k2, k3, k4, by rw [e1]; exact h2, by rw [e1]; exact h3⟩
def inR (c : Circ) (l : Int) : Prop := 0 ≤ l ∧ l ≤ 2 * c.max + 1
def defR (c : Circ) (l : Int) : Prop := 2 ≤ l ∧ l ≤ 2 * c.max ∧ l % 2 = 0
section
variable {c : Circ} (R : Right c)
include R
theorem Right.nLat : c.latches.length ≤ 16384 := by have := R.lens c.latches.length (by simp [Circ.lens]); omega
theorem Right.nAnd : c.ands.length ≤ 16384 := by have := R.lens c.ands.length (by simp [Circ.lens]); omega
theorem Right.nCon : c.constraints.length ≤ 16384 := by have := R.lens c.constraints.length (by simp [Circ.lens]); omega
theorem Right.inp {l : Int} (h : l ∈ c.inputs) : defR c l := by
  obtain ⟨j, hj, rfl⟩ := List.mem_iff_getElem.1 h
  have := (R.tab.inp j hj).1
  unfold defBad at this; unfold defR; omega
theorem Right.lat {x : Tri} (h : x ∈ c.latches) : defR c x.1 ∧ inR c x.2.1 ∧ (x.2.2 = 0 ∨ x.2.2 = 1 ∨ x.2.2 = x.1) := by
  obtain ⟨j, hj, rfl⟩ := List.mem_iff_getElem.1 h
  have h1 := (R.tab.lat j hj).1
  have h2 := (R.tab.lat j hj).2.2
  have h3 := R.use.next _ (List.getElem_mem hj)
  unfold defBad at h1; unfold badReset at h2; unfold useOk at h3; unfold defR inR
  omega
theorem Right.gate {x : Tri} (h : x ∈ c.ands) : defR c x.1 ∧ inR c x.2.1 ∧ inR c x.2.2 := by
  obtain ⟨j, hj, rfl⟩ := List.mem_iff_getElem.1 h
  have h1 := (R.tab.gat j hj).1
  have h3 := R.use.ands _ (List.getElem_mem hj)
  unfold defBad at h1; unfold useOk at h3; unfold defR inR
  omega
theorem Right.con {l : Int} (h : l ∈ c.constraints) : inR c l := ⟨(R.use.constraints l h).1, (R.use.constraints l h).2.1⟩
theorem Right.just {ls : List Int} {l : Int} (h : ls ∈ c.justice) (h2 : l ∈ ls) : inR c l := ⟨(R.use.justice ls h l h2).1, (R.use.justice ls h l h2).2.1⟩
theorem Right.ord {i : Int} (h : i ∈ ordM c) : 0 ≤ i ∧ i < c.ands.length := R.all.told.all i h
end
theorem inR.has {c : Circ} {l : Int} {v : List Bool} (h : inR c l) (hm : c.max ≤ 16384) (hv : v.length = (c.max + 1).toNat) : hasL v l := by unfold inR at h; unfold hasL; omega
theorem defR.in {c : Circ} {l : Int} (h : defR c l) : inR c l := by unfold defR at h; unfold inR; omega
/-! ### the values -/
def vIn (c : Circ) (r : List Bool) (i : Nat) : List Bool := (List.range i).foldl (fun v (k : Nat) => v.set (gt c.inputs (k : Int) / 2).toNat (gt r (k : Int))) (List.replicate (c.max + 1).toNat false)
def vLt (c : Circ) (s v : List Bool) (i : Nat) : List Bool := (List.range i).foldl (fun v (k : Nat) => v.set ((gt c.latches (k : Int)).1 / 2).toNat (gt s (k : Int))) v
def vAn (c : Circ) (ord : List Int) (v : List Bool) (i : Nat) : List Bool := (List.range i).foldl (fun v (k : Nat) => v.set ((gt c.ands (gt ord (k : Int))).1 / 2).toNat (lv v (gt c.ands (gt ord (k : Int))).2.1 && lv v (gt c.ands (gt ord (k : Int))).2.2)) v
noncomputable def valM (c : Circ) (s r : List Bool) : List Bool := vAn c (ordM c) (vLt c s (vIn c r c.inputs.length) c.latches.length) (ordM c).length
attribute [local irreducible] WC WL WX WS WO OX Does DoesU Enters CV Pure thenQ blockQ retQ Wants retQC GC GL GS GX RdB thenG blockG retG Rd At gt CVN CVM
set_option maxRecDepth 100000
end SC
end Go.Proofs.Ytbmngkdnebklpaa
end
section
/- trestleref07: Values0. -/
set_option linter.unusedVariables false
set_option linter.unusedSimpArgs false
namespace Go.Proofs.Ytbmngkdnebklpaa
namespace SC
open Go.Proofs
attribute [local irreducible] WC WL WX WS WO OX Does DoesU Enters CV Pure thenQ blockQ retQ Wants retQC GC GL GS GX RdB thenG blockG retG Rd At gt CVN CVM
set_option maxRecDepth 100000
end SC
end Go.Proofs.Ytbmngkdnebklpaa
end
section
/- trestleref07: looked, Values, Next, Holds, Starts. -/
set_option linter.unusedVariables false
set_option linter.unusedSimpArgs false
namespace Go.Proofs.Ytbmngkdnebklpaa
namespace SC
open Go.Proofs
/-- A circuit that can be read, and what is so of any. -/
structure CirIn (w : World) (c : Circ) (h js : Hd) : Prop where
  at_ : CirAt w c h js
  sane : c.Sane
  okay : c.Okay
  fits : c.Fits
theorem CirIn.chg {w w' : World} {c : Circ} {h js : Hd} (H : CirIn w c h js) (hc : Chg w w' none_) : CirIn w' c h js := ⟨H.at_.chg hc, H.sane, H.okay, H.fits⟩
theorem In.old {Γ : Mm} {w w0 : World} (h : In Γ (.old w0 none_)) (M : Mem w Γ) : Chg w0 w none_ := h.ok M
attribute [local irreducible] WC WL WX WS WO OX Does DoesU Enters CV Pure thenQ blockQ retQ Wants retQC GC GL GS GX RdB thenG blockG retG Rd At gt CVN CVM
set_option maxRecDepth 100000
section
variable {w : World} {c : Circ} {h js : Hd} {S T : Option Addr} {k2 k3 : Nat} {s r : List Bool} (H : CirIn w c h js) (hS : RowA w booc 1 S s) (hT : RowA w booc 1 T r)
include H hS hT
end
end SC
end Go.Proofs.Ytbmngkdnebklpaa
end
section
/- sim: is, values, next, holds. -/
set_option linter.unusedVariables false
set_option linter.unusedSimpArgs false
namespace Go.Proofs.Ytbmngkdnebklpaa
namespace SC
open Go.Proofs
theorem In.box {Γ : Mm} {w : World} {b : Nat} {t : TypeId} {cs : List Value} (h : In Γ (.box b t cs)) (M : Mem w Γ) : Blk w b t cs := h.ok M
theorem In.row {Γ : Mm} {w : World} {α : Type} {enc : α → List Value} {sz : Nat} [H : Enc enc sz] {t : TypeId} {A : Option Addr} {c : Nat} {l : List α} (h : In Γ (.vec enc sz t A c l)) (M : Mem w Γ) : RowA w enc sz A l := (Rd.own h H).at M
instance : Fn Try.prog 91 := ⟨fun args w => Try.call91 args w⟩
instance : Fn Try.prog 95 := ⟨fun args w => Try.call95 args w⟩
instance : Fn Try.prog 105 := ⟨fun args w => Try.call105 args w⟩
attribute [local irreducible] WC WL WX WS WO OX Does DoesU Enters CV Pure thenQ blockQ retQ Wants retQC GC GL GS GX RdB thenG blockG retG Rd At gt CVN CVM
set_option maxRecDepth 100000
/-! ### slices.ContainsFunc at numbers -/
end SC
end Go.Proofs.Ytbmngkdnebklpaa
end
section
/- trestlebook: SameBools, SpoilBools; trestlelaw07: lent, lit. -/
set_option linter.unusedVariables false
set_option linter.unusedSimpArgs false
namespace Go.Proofs.Ytbmngkdnebklpaa
namespace SC
open Go.Proofs
attribute [local irreducible] WC WL WX WS WO OX Does DoesU Enters CV Pure thenQ blockQ retQ Wants retQC GC GL GS GX RdB thenG blockG retG Rd At gt CVN CVM
set_option maxRecDepth 100000
end SC
end Go.Proofs.Ytbmngkdnebklpaa
end
section
/- sim: ready, step, Values, Next, Holds, Starts. -/
set_option linter.unusedVariables false
set_option linter.unusedSimpArgs false
namespace Go.Proofs.Ytbmngkdnebklpaa
namespace SC
open Go.Proofs
attribute [local irreducible] WC WL WX WS WO OX Does DoesU Enters CV Pure thenQ blockQ retQ Wants retQC GC GL GS GX RdB thenG blockG retG Rd At gt CVN CVM
set_option maxRecDepth 100000
section
variable {w : World} {c : Circ} {h js : Hd} {S T : Option Addr} {k2 k3 : Nat} {s r : List Bool} (H : CirIn w c h js) (hS : RowA w booc 1 S s) (hT : RowA w booc 1 T r)
include H hS hT
end
end SC
end Go.Proofs.Ytbmngkdnebklpaa
end
section
/- What is so in a step. trestleref07: moment. -/
set_option linter.unusedVariables false
set_option linter.unusedSimpArgs false
namespace Go.Proofs.Ytbmngkdnebklpaa
namespace SC
open Go.Proofs
attribute [local irreducible] WC WL WX WS WO OX Does DoesU Enters CV Pure thenQ blockQ retQ Wants retQC GC GL GS GX RdB thenG blockG retG Rd At gt CVN CVM
set_option maxRecDepth 100000
end SC
end Go.Proofs.Ytbmngkdnebklpaa
end
section
/- sim: moment. -/
set_option linter.unusedVariables false
set_option linter.unusedSimpArgs false
namespace Go.Proofs.Ytbmngkdnebklpaa
namespace SC
open Go.Proofs
attribute [local irreducible] WC WL WX WS WO OX Does DoesU Enters CV Pure thenQ blockQ retQ Wants retQC GC GL GS GX RdB thenG blockG retG Rd At gt CVN CVM
set_option maxRecDepth 100000
end SC
end Go.Proofs.Ytbmngkdnebklpaa
end
section
/- Traces and runs. trestleref07: Fits, Run0, Run; sim: Run. -/
set_option linter.unusedVariables false
set_option linter.unusedSimpArgs false
namespace Go.Proofs.Ytbmngkdnebklpaa
namespace SC
open Go.Proofs
abbrev Hdl := Option Addr × Nat
/-- A trace, each row with its handle. -/
structure Trc where
  init : List Bool
  rows : List (Hdl × List Bool)
  loop : Int
/-- The states of a run, and what is so in its steps. -/
noncomputable def stM (c : Circ) (t : Trc) : Nat → List Bool
  | 0 => t.init
  | k + 1 => nxtM c (valM c (stM c t k) (gt t.rows (k : Int)).2)
attribute [local irreducible] WC WL WX WS WO OX Does DoesU Enters CV Pure thenQ blockQ retQ Wants retQC GC GL GS GX RdB thenG blockG retG Rd At gt CVN CVM
set_option maxRecDepth 100000
end SC
end Go.Proofs.Ytbmngkdnebklpaa
end
section
/- trestleref07: Run; sim: Run. -/
set_option linter.unusedVariables false
set_option linter.unusedSimpArgs false
namespace Go.Proofs.Ytbmngkdnebklpaa
namespace SC
open Go.Proofs
attribute [local irreducible] WC WL WX WS WO OX Does DoesU Enters CV Pure thenQ blockQ retQ Wants retQC GC GL GS GX RdB thenG blockG retG Rd At gt CVN CVM
set_option maxRecDepth 100000
end SC
end Go.Proofs.Ytbmngkdnebklpaa
end
section
/- trestlelaw07: works. -/
set_option linter.unusedVariables false
set_option linter.unusedSimpArgs false
namespace Go.Proofs.Ytbmngkdnebklpaa
namespace SC
open Go.Proofs
attribute [local irreducible] WC WL WX WS WO OX Does DoesU Enters CV Pure thenQ blockQ retQ Wants retQC GC GL GS GX RdB thenG blockG retG Rd At CVN CVM
set_option maxRecDepth 100000
end SC
end Go.Proofs.Ytbmngkdnebklpaa
end
section
/- ShapeChecks: the walk. -/
set_option linter.unusedVariables false
set_option linter.unusedSimpArgs false
namespace Go.Proofs.Ytbmngkdnebklpaa
namespace SC
open Go.Proofs
theorem Circ.Fits.lens1 {c : Circ} (hf : c.Fits) : ∀ n ∈ c.lens, n + 1 ≤ 9223372036854775807 := by
  intro n hn
  have h1 := hf.inputs
  have h2 := hf.latches
  have h3 := hf.outputs
  have h4 := hf.bads
  have h5 := hf.constraints
  have h6 := hf.justice
  have h7 := hf.fairness
  have h8 := hf.ands
  have h9 := hf.symbols
  have h10 := hf.comments
  simp only [Circ.lens, List.mem_cons, List.not_mem_nil, or_false] at hn
  rcases hn with rfl | rfl | rfl | rfl | rfl | rfl | rfl | rfl | rfl | rfl <;> omega
attribute [local irreducible] WC WL WX WS WO OX Does DoesU Enters CV Pure thenQ blockQ retQ Wants retQC
set_option maxRecDepth 100000
end SC
end Go.Proofs.Ytbmngkdnebklpaa
end
section
/- trestlelaw07: SimStarts, SimSteps: the walks. -/
set_option linter.unusedVariables false
set_option linter.unusedSimpArgs false
namespace Go.Proofs.Ytbmngkdnebklpaa
namespace SC
open Go.Proofs
/-- A lent circuit, as an entry. -/
def lentX (base : Nat) (c : Circ) (h js : Hd) : EntX where
  own := fun k => ∃ i, (lentRow c h js i).v.ownBlock = some k
  ok := fun w => CirLent w base c h js
  lt := fun w H k ⟨i, hi⟩ => (World.ownsRow.lt (H i) k hi).2
  keep := fun w w' S H hc hn => fun i => own_chg (H i) hc fun k hk => hn k ⟨i, hk⟩
def LendR (c : Circ) (v : Value) (N : Mm) : Prop := ∃ base h' js', v = .agg (ccells c h').toArray ∧ N = [.any (lentX base c h' js')]
theorem LendG {w : World} {c : Circ} {h js : Hd} (H : CirAt w c h js) (hf : c.Fits1) (hn : Nils h js) : CVN Try.prog 20 [.agg (ccells c h).toArray] w (LendR c) := CV.mono (lendCircuit_cv H hf hn) fun v w' ⟨h', js', e1, e2, hc⟩ =>
  ⟨[.any (lentX w.heap.size c h' js')], Mem.join (.one e2) (.one hc) fun k ⟨E, hE, h1⟩ ⟨F, hF, h2⟩ => by
    simp only [List.mem_singleton] at hE hF
    subst hE hF
    obtain ⟨i, hi⟩ := h1
    have := (World.ownsRow.lt (e2 i) k hi).1
    have := h2.1
    omega, w.heap.size, h', js', e1, rfl⟩
/-- What comes in: a circuit, with its reach. -/
structure CirGot (w : World) (c : Circ) (h js : Hd) : Prop extends CirIn w c h js where
  fits1 : c.Fits1
  nils : Nils h js
theorem CirGot.chg {w w' : World} {c : Circ} {h js : Hd} (H : CirGot w c h js) (hc : Chg w w' none_) : CirGot w' c h js := ⟨H.toCirIn.chg hc, H.fits1, H.nils⟩
theorem In.lent {Γ : Mm} {w w0 : World} {base : Nat} {c : Circ} {h js h' js' : Hd} (H : CirIn w0 c h js) (hi : In Γ (.any (lentX base c h' js'))) (M : Mem w Γ) : CirIn w c h' js' := ⟨CirLent.at (hi.ok M), H.sane, H.okay, H.fits⟩
theorem KeptG {Γ : Mm} {w0 w : World} {base : Nat} {c : Circ} {h js h' js' : Hd} (H : CirGot w0 c h js) (hi : In Γ (.any (lentX base c h' js'))) (ho : In Γ (.old w0 none_)) (M : Mem w Γ) : CVN Try.prog 29 [.agg (ccells c h').toArray, .agg (ccells c h).toArray] w fun v N => N = [] ∧ v = .bool true :=
  CVN.of (keptCircuit_cv (hi.ok M) (H.at_.chg (ho.old M)) H.okay H.fits1.lens1) fun v w' h => ⟨h.2, h.1⟩
attribute [local irreducible] WC WL WX WS WO OX Does DoesU Enters CV Pure thenQ blockQ retQ Wants retQC GC GL GS GX RdB thenG blockG retG Rd At gt CVN CVM
set_option maxRecDepth 100000
end SC
end Go.Proofs.Ytbmngkdnebklpaa
end
section
/- trestlelaw07: SimSteps: the walk. -/
set_option linter.unusedVariables false
set_option linter.unusedSimpArgs false
namespace Go.Proofs.Ytbmngkdnebklpaa
namespace SC
open Go.Proofs
theorem G_callM2 {P : Program} {n : Nat} {all : List Oper} {K : Env → Mm → Prop} {m : Md} {d : Option Tmp} {e : Env} {Γ Γ' : Mm} {ty : TypeId} {f : FuncId} [F : Go.Proofs.Ytbmngkdnebklpaa.SC.Fn P f] {args : Array Operand} {ats : Array TypeId} {vs : List Value} {C : Mm} {R : Value → Mm → Prop} (hm : wrOk all m = true) (h : evs e args.toList = some vs) (hc : ∀ w, Mem w C → CVM P f vs w C R) (hC : Rems Γ C Γ') (hr : ∀ v N, R v N → GN P n all K m (push d v e) (N ++ Γ')) :
    GX P n all K m d (.call { callee := .value (.func f), args := args, argTypes := ats }) ty e Γ :=
  G_callM hm h hC (fun w M => hc w (Mem.takes hC M).left) hr
attribute [local irreducible] WC WL WX WS WO OX Does DoesU Enters CV Pure thenQ blockQ retQ Wants retQC GC GL GS GX RdB thenG blockG retG Rd At gt CVN CVM
set_option maxRecDepth 100000
end SC
end Go.Proofs.Ytbmngkdnebklpaa
end
section
/- Lists of bools that come in. -/
set_option linter.unusedVariables false
set_option linter.unusedSimpArgs false
namespace Go.Proofs.Ytbmngkdnebklpaa
namespace SC
open Go.Proofs
set_option maxRecDepth 100000
section
variable {H : Type} {enc : TypeId × Value → H} {W : World} {base : Nat} {spare : Nat → Bool} {held : Bool}
end
end SC
end Go.Proofs.Ytbmngkdnebklpaa
end
section
/- What is so of the values of a right circuit; trestlelaw07: lit. -/
set_option linter.unusedVariables false
set_option linter.unusedSimpArgs false
namespace Go.Proofs.Ytbmngkdnebklpaa
namespace SC
open Go.Proofs
/-! ### a list that is written from the left -/
section
variable {g : Nat → Nat} {h : List Bool → Nat → Bool} {v : List Bool}
end
theorem nodup_ix {l : List Int} (h : l.Nodup) {a b : Nat} (ha : a < l.length) (hb : b < l.length) (e : l[a] = l[b]) : a = b := by
  have hp := List.pairwise_iff_getElem.1 h
  rcases Nat.lt_trichotomy a b with h1 | h1 | h1
  · exact absurd e (hp a b ha hb h1)
  · exact h1
  · exact absurd e.symm (hp b a hb ha h1)
attribute [local irreducible] WC WL WX WS WO OX Does DoesU Enters CV Pure thenQ blockQ retQ Wants retQC GC GL GS GX RdB thenG blockG retG Rd At gt CVN CVM
set_option maxRecDepth 100000
end SC
end Go.Proofs.Ytbmngkdnebklpaa
end
section
/- trestlelaw07: SimGates: the walk. -/
set_option linter.unusedVariables false
set_option linter.unusedSimpArgs false
namespace Go.Proofs.Ytbmngkdnebklpaa
namespace SC
open Go.Proofs
attribute [local irreducible] WC WL WX WS WO OX Does DoesU Enters CV Pure thenQ blockQ retQ Wants retQC GC GL GS GX RdB thenG blockG retG Rd At gt CVN CVM
set_option maxRecDepth 100000
end SC
end Go.Proofs.Ytbmngkdnebklpaa
end
section
/- trestlebook: SameInts, SpoilInts, SameTrace; trestlelaw07: same. -/
set_option linter.unusedVariables false
set_option linter.unusedSimpArgs false
namespace Go.Proofs.Ytbmngkdnebklpaa
namespace SC
open Go.Proofs Go.Maps
set_option maxRecDepth 100000
theorem sameIntsG {w : World} {A B : Option Addr} {c d : Nat} {l : List Int} (R : RowA w icell 1 A l) (R' : RowA w icell 1 B l) (hl : l.length ≤ 9223372036854775807) : CVN Try.prog 37 [.slice A l.length c, .slice B l.length d] w fun v N => N = [] ∧ v = .bool true :=
  CVN.of (sameInts_cv R R' hl hl) fun v w' h => ⟨h.2, by rw [h.1, decide_eq_true rfl]⟩
theorem spoilIntsG {w : World} {A : Option Addr} {c : Nat} {l : List Int} {mark : Int} (M : Mem w [.vec icell 1 3 A c l]) : CVM Try.prog 58 [.slice A l.length c, nu mark] w [.vec icell 1 3 A c l] fun v N => N = [] :=
  CV.mono (spoil_cv (mark := mark) ((In.here (E := .vec icell 1 3 A c l) (Γ := [])).ok M)) fun v w' h => ⟨[], .one (h.mono fun k hk => owns_cons.2 (.inl hk)), rfl⟩
/-! ### spots -/
/-! ### traces -/
theorem gt_snd {α β γ : Type} [Inhabited α] [Inhabited β] [Inhabited γ] {ps : List (α × β)} {qs : List (γ × β)} (h : ps.map (·.2) = qs.map (·.2)) {i : Nat} (hi : i < ps.length) : (gt ps (i : Int)).2 = (gt qs (i : Int)).2 := by
  have hl := congrArg List.length h
  simp only [List.length_map] at hl
  rw [gt_nat hi, gt_nat (by omega)]
  have := congrArg (fun l => l[i]?) h
  simp only [List.getElem?_map, List.getElem?_eq_getElem hi, List.getElem?_eq_getElem (show i < qs.length by omega), Option.map_some, Option.some.injEq] at this
  exact this
/-! ### the moments of a run, in memory -/
attribute [local irreducible] WC WL WX WS WO OX Does DoesU Enters CV Pure thenQ blockQ retQ Wants retQC GC GL GS GX RdB thenG blockG retG Rd At gt CVN CVM
end SC
end Go.Proofs.Ytbmngkdnebklpaa
end
section
/- trestlebook: CopyTrace; runs of traces that read the same. -/
set_option linter.unusedVariables false
set_option linter.unusedSimpArgs false
namespace Go.Proofs.Ytbmngkdnebklpaa
namespace SC
open Go.Proofs
attribute [local irreducible] WC WL WX WS WO OX Does DoesU Enters CV Pure thenQ blockQ retQ Wants retQC GC GL GS GX RdB thenG blockG retG Rd At gt CVN CVM
set_option maxRecDepth 100000
end SC
end Go.Proofs.Ytbmngkdnebklpaa
end
section
/- Entries bound together; what runs answer. -/
set_option linter.unusedVariables false
set_option linter.unusedSimpArgs false
namespace Go.Proofs.Ytbmngkdnebklpaa
namespace SC
open Go.Proofs
/-- Entries as one. -/
def bun (Δ : Mm) : EntX where
  own := owns Δ
  ok := fun w => Mem w Δ
  lt := fun w M k hk => M.lt hk
  keep := fun w w' S M hc hn => M.chg hc hn
theorem In.bun {Γ Δ : Mm} {w : World} (h : In Γ (.any (bun Δ))) (M : Mem w Γ) : Mem w Δ := h.ok M
theorem Rd.bun {α : Type} {Γ Δ : Mm} {enc : α → List Value} {sz : Nat} {A : Option Addr} {l : List α} (h : In Γ (.any (bun Δ))) (h0 : Rd Δ enc sz A l) : Rd Γ enc sz A l := fun w M => h0.at (h.bun M)
theorem CVN.bun {P : Program} {f : FuncId} {args : List Value} {w : World} {R : Value → Mm → Prop} (h : CVN P f args w R) : CVN P f args w fun v N => ∃ N', R v N' ∧ N = [.any (bun N')] :=
  CV.mono h fun v w' ⟨N, M, hR⟩ => ⟨[.any (SC.bun N)], Mem.join (.one M.left) M.right fun k ⟨E, hE, h1⟩ h2 => by
    simp only [List.mem_singleton] at hE
    subst hE
    exact M.sep k h1 h2, N, hR, rfl⟩
theorem Wk.left {Γ Δ : Mm} : Wk (Δ ++ Γ) Δ := ⟨fun w M => M.left, fun k hk => owns_append.2 (.inl hk)⟩
end SC
end Go.Proofs.Ytbmngkdnebklpaa
end
section
/- trestlelaw07: SimRuns: the walk. -/
set_option linter.unusedVariables false
set_option linter.unusedSimpArgs false
namespace Go.Proofs.Ytbmngkdnebklpaa
namespace SC
open Go.Proofs
theorem fam_cons {α : Type} (f : α → Mm) (l : List α) (a : α) : fam f (a :: l) = fam f l ++ f a := by unfold fam; simp
attribute [local irreducible] WC WL WX WS WO OX Does DoesU Enters CV Pure thenQ blockQ retQ Wants retQC GC GL GS GX RdB thenG blockG retG Rd At gt CVN CVM
attribute [local irreducible] fam bun
set_option maxRecDepth 100000
end SC
end Go.Proofs.Ytbmngkdnebklpaa
end
section
/- Traces that come in. -/
set_option linter.unusedVariables false
set_option linter.unusedSimpArgs false
namespace Go.Proofs.Ytbmngkdnebklpaa
namespace SC
open Go.Proofs
set_option maxRecDepth 100000
section
variable {H : Type} {enc : TypeId × Value → H} {W : World} {base : Nat} {spare : Nat → Bool} {held : Bool}
end
end SC
end Go.Proofs.Ytbmngkdnebklpaa
end
section
/- A back part of a slice; numbers without a sign; a run from one of its states. -/
set_option linter.unusedVariables false
set_option linter.unusedSimpArgs false
namespace Go.Proofs.Ytbmngkdnebklpaa
namespace SC
open Go.Proofs
set_option maxRecDepth 100000
section
variable {n : Nat} {all : List Oper} {K : Env → Mm → Prop} {m : Md} {e : Env} {Γ : Mm} {d : Option Tmp} {ty t t' t0 : TypeId} {x y : Operand} {td : TypeDesc} {sz sz1 by_ by1 : Nat} {zv z1 : Value} {ag ag1 : Bool}
end
theorem RowA.drop {α : Type} {w : World} {enc : α → List Value} {sz : Nat} {A : Option Addr} {l : List α} (h : RowA w enc sz A l) (i : Nat) : RowA w enc sz (A.map (·.add (i * sz))) (l.drop i) := fun k hk => by
  rw [List.length_drop] at hk
  obtain ⟨p, rfl, hp⟩ := h (i + k) (by omega)
  refine ⟨p.add (i * sz), rfl, fun j u hj => ?_⟩
  rw [List.getElem_drop] at hj
  have := hp j u hj
  rw [show ((i + k : Nat) : Int).toNat = i + k by omega, Nat.add_mul] at this
  rw [show (k : Int).toNat = k by omega, Addr.add_add p]
  exact this
/-- The trace from a state on. -/
noncomputable def tail (c : Circ) (t : Trc) (i : Nat) : Trc := ⟨stM c t i, t.rows.drop i, -1⟩
end SC
end Go.Proofs.Ytbmngkdnebklpaa
end
section
/- trestleref03: Lit, Lits, Binary. -/
set_option linter.unusedVariables false
set_option linter.unusedSimpArgs false
namespace Go.Proofs.Ytbmngkdnebklpaa
namespace SC
open Go.Proofs
attribute [local irreducible] WC WL WX WS WO OX Does DoesU Enters CV Pure thenQ blockQ retQ Wants retQC GC GL GS GX RdB thenG blockG retG Rd At gt CVN CVM
set_option maxRecDepth 100000
end SC
end Go.Proofs.Ytbmngkdnebklpaa
end
section
/- The renumbering's map: what it gives to each variable of a right circuit. -/
set_option linter.unusedVariables false
set_option linter.unusedSimpArgs false
namespace Go.Proofs.Ytbmngkdnebklpaa
namespace SC
open Go.Proofs
section
variable {c : Circ} (R : Right c)
include R
end
end SC
end Go.Proofs.Ytbmngkdnebklpaa
end
section
/- Definitions that are apart pass; the renumbered circuit's definitions. -/
set_option linter.unusedVariables false
set_option linter.unusedSimpArgs false
namespace Go.Proofs.Ytbmngkdnebklpaa
namespace SC
open Go.Proofs
/-! ### the renumbered circuit -/
section
variable {c : Circ} (R : Right c)
/-- The circuit in the binary order; the map. -/
noncomputable abbrev renC (c : Circ) : Circ := renM c (ordM c)
noncomputable abbrev toM (c : Circ) : List Int := mapOf c.max (defsOf c (ordM c))
include R
end
end SC
end Go.Proofs.Ytbmngkdnebklpaa
end
section
/- The renumbered circuit is right. -/
set_option linter.unusedVariables false
set_option linter.unusedSimpArgs false
namespace Go.Proofs.Ytbmngkdnebklpaa
namespace SC
open Go.Proofs
section
variable {c : Circ} (R : Right c)
include R
end
end SC
end Go.Proofs.Ytbmngkdnebklpaa
end
section
/- The renumbered circuit's order; it looks right. -/
set_option linter.unusedVariables false
set_option linter.unusedSimpArgs false
namespace Go.Proofs.Ytbmngkdnebklpaa
namespace SC
open Go.Proofs
section
variable {c : Circ} (R : Right c)
include R
/-- A gate that another one uses was told before it. -/
theorem Right.low {k : Nat} (hk : k < (ordM c).length) {l : Int} (hl : l = (andAt c (ordM c)[k]).2.1 ∨ l = (andAt c (ordM c)[k]).2.2) {j : Nat} (hj : j < (ordM c).length) (e : l / 2 = (andAt c (ordM c)[j]).1 / 2) : j < k := by
  have ho := R.ord (List.getElem_mem hj)
  have hlt : (ordM c)[j].toNat < c.ands.length := by omega
  have h3 := (R.tab.gat _ hlt).2
  have ea : andAt c (ordM c)[j] = c.ands[(ordM c)[j].toNat] := by unfold andAt; simp [hlt]
  rw [← ea, ← e, show (((ordM c)[j].toNat : Nat) : Int) = (ordM c)[j] by omega] at h3
  have hsp : ordM c = (ordM c).take k ++ (ordM c)[k] :: (ordM c).drop (k + 1) := by
    have h1 := List.take_append_drop k (ordM c)
    rw [List.drop_eq_getElem_cons hk] at h1
    exact h1.symm
  have hlow := (R.all.told.split hsp).1.low
  have hb : (ordM c)[j] ∈ gateB (tabM c) c (ordM c)[k] := by
    show (ordM c)[j] ∈ belowL (tabM c) [(andAt c (ordM c)[k]).2.1, (andAt c (ordM c)[k]).2.2]
    rw [mem_belowL]
    exact ⟨l, by rcases hl with rfl | rfl <;> simp, kindAt_get h3, atOf_get h3⟩
  obtain ⟨k', hk', ek⟩ := List.mem_iff_getElem.1 (hlow _ hb)
  rw [List.length_take] at hk'
  rw [List.getElem_take] at ek
  have := nodup_ix R.all.told.nodup (a := k') (b := j) (by omega) hj ek
  omega
end
end SC
end Go.Proofs.Ytbmngkdnebklpaa
end
section
/- The renumbered circuit's values and runs. -/
set_option linter.unusedVariables false
set_option linter.unusedSimpArgs false
namespace Go.Proofs.Ytbmngkdnebklpaa
namespace SC
open Go.Proofs
section
variable {c : Circ}
end
section
variable {c : Circ} (R : Right c)
include R
end
end SC
end Go.Proofs.Ytbmngkdnebklpaa
end
section
/- Runs of the renumbered circuit. -/
set_option linter.unusedVariables false
set_option linter.unusedSimpArgs false
namespace Go.Proofs.Ytbmngkdnebklpaa
namespace SC
open Go.Proofs
section
variable {c : Circ} (R : Right c) (R' : Right (renC c))
include R R'
end
end SC
end Go.Proofs.Ytbmngkdnebklpaa
end
section
/- The binary order: a right circuit has it just if renumbering leaves it as it is. -/
set_option linter.unusedVariables false
set_option linter.unusedSimpArgs false
namespace Go.Proofs.Ytbmngkdnebklpaa
namespace SC
open Go.Proofs
section
variable {c : Circ} (R : Right c)
include R
end
end SC
end Go.Proofs.Ytbmngkdnebklpaa
end
section
/- shape: Renumber, by entries. -/
set_option linter.unusedVariables false
set_option linter.unusedSimpArgs false
namespace Go.Proofs.Ytbmngkdnebklpaa
namespace SC
open Go.Proofs
section
variable {c : Circ} (R : Right c)
include R
end
/-- A renumbered circuit of its own and its map, as one entry. -/
def renX (base : Nat) (c : Circ) (h js : Hd) (A : Option Addr) (k : Nat) : EntX where
  own := fun b => (∃ i, (cirRows (renC c) h js js (renC c).justice.length i).v.ownBlock = some b) ∨ (Value.slice A (toM c).length k).ownBlock = some b
  ok := fun w => CirOwn w base (renC c) h js ∧ w.ownsRow base 3 1 (.slice A (toM c).length k) (toM c).length ((toM c).flatMap icell)
  lt := fun w H b hb => by
    rcases hb with ⟨i, hi⟩ | hb
    · exact (Rows.lt H.1 hi).2
    · exact (World.ownsRow.lt H.2 b hb).2
  keep := fun w w' S H hc hn => ⟨Rows.chg H.1 hc fun i b hb => hn b (.inl ⟨i, hb⟩), own_chg H.2 hc fun b hb => hn b (.inr hb)⟩
attribute [local irreducible] WC WL WX WS WO OX Does DoesU Enters CV Pure thenQ blockQ retQ Wants retQC GC GL GS GX RdB thenG blockG retG Rd At gt CVN CVM
set_option maxRecDepth 100000
end SC
end Go.Proofs.Ytbmngkdnebklpaa
end
section
/- trestlelaw07: SimNumbers: the walk. -/
set_option linter.unusedVariables false
set_option linter.unusedSimpArgs false
namespace Go.Proofs.Ytbmngkdnebklpaa
namespace SC
open Go.Proofs
attribute [local irreducible] WC WL WX WS WO OX Does DoesU Enters CV Pure thenQ blockQ retQ Wants retQC GC GL GS GX RdB thenG blockG retG Rd At gt CVN CVM
attribute [local irreducible] fam bun renX
set_option maxRecDepth 100000
end SC
end Go.Proofs.Ytbmngkdnebklpaa
end
section
/- slices.Equal, slices.EqualFunc; shape's Same. -/
set_option linter.unusedVariables false
set_option linter.unusedSimpArgs false
namespace Go.Proofs.Ytbmngkdnebklpaa
namespace SC
open Go.Proofs
attribute [local irreducible] WC WL WX WS WO OX Does DoesU Enters CV Pure thenQ blockQ retQ Wants retQC
set_option maxRecDepth 100000
end SC
end Go.Proofs.Ytbmngkdnebklpaa
end
section
/- slices.EqualFunc at lists of lists; shape's Same. -/
set_option linter.unusedVariables false
set_option linter.unusedSimpArgs false
namespace Go.Proofs.Ytbmngkdnebklpaa
namespace SC
open Go.Proofs
attribute [local irreducible] WC WL WX WS WO OX Does DoesU Enters CV Pure thenQ blockQ retQ Wants retQC
set_option maxRecDepth 100000
end SC
end Go.Proofs.Ytbmngkdnebklpaa
end
section
/- trestlebook: SpoilCircuit. -/
set_option linter.unusedVariables false
set_option linter.unusedSimpArgs false
namespace Go.Proofs.Ytbmngkdnebklpaa
namespace SC
open Go.Proofs
attribute [local irreducible] WC WL WX WS WO OX Does DoesU Enters CV Pure thenQ blockQ retQ Wants retQC
set_option maxRecDepth 100000
end SC
end Go.Proofs.Ytbmngkdnebklpaa
end
section
/- IsBinary, of the reference and of shape. -/
set_option linter.unusedVariables false
set_option linter.unusedSimpArgs false
namespace Go.Proofs.Ytbmngkdnebklpaa
namespace SC
open Go.Proofs
attribute [local irreducible] WC WL WX WS WO OX Does DoesU Enters CV Pure thenQ blockQ retQ Wants retQC GC GL GS GX RdB thenG blockG retG Rd At gt CVN CVM
attribute [local irreducible] renX
set_option maxRecDepth 100000
end SC
end Go.Proofs.Ytbmngkdnebklpaa
end
section
/- The renumbered circuit has the binary order. -/
set_option linter.unusedVariables false
set_option linter.unusedSimpArgs false
namespace Go.Proofs.Ytbmngkdnebklpaa
namespace SC
open Go.Proofs
section
variable {c : Circ} (R : Right c)
include R
end
end SC
end Go.Proofs.Ytbmngkdnebklpaa
end
section
/- trestlelaw03: ShapeSettles: the walk. -/
set_option linter.unusedVariables false
set_option linter.unusedSimpArgs false
namespace Go.Proofs.Ytbmngkdnebklpaa
namespace SC
open Go.Proofs
attribute [local irreducible] WC WL WX WS WO OX Does DoesU Enters CV Pure thenQ blockQ retQ Wants retQC GC GL GS GX RdB thenG blockG retG Rd At gt CVN CVM
attribute [local irreducible] renX
set_option maxRecDepth 100000
end SC
end Go.Proofs.Ytbmngkdnebklpaa
end
section
/- trestlebook: CopyCircuit by entries; trestleref03: Renumber. -/
set_option linter.unusedVariables false
set_option linter.unusedSimpArgs false
namespace Go.Proofs.Ytbmngkdnebklpaa
namespace SC
open Go.Proofs
end SC
end Go.Proofs.Ytbmngkdnebklpaa
end
section
/- General words: clauses in memory, families bound together, regions whose changes are kept apart. (Collected out of N1, N2, N9, N11, N37, N39, N40, N41 for seats without their functions.) -/
set_option linter.unusedVariables false
set_option linter.unusedSimpArgs false
namespace Go.Proofs.Ytbmngkdnebklpaa
namespace SC
open Go.Proofs
theorem does_neg {P : Program} {e : Env} {x : Operand} {t ty : TypeId} {w : World} {a : Int} (h : ev e x = some (.int .i64 a)) (h2 : -9223372036854775808 ≤ -a) (h3 : -a ≤ 9223372036854775807) : Does P (.unOp .neg t x) ty e w (.int .i64 (-a)) w := by
  intro ρ dst pos af g hρ
  have h0 := wrap64_id h2 h3
  simp [execOp, hρ _ _ h, Op.unary, Op.intArith, h0]
theorem G_neg {P : Program} {n : Nat} {all : List Oper} {K : Env → Mm → Prop} {m : Md} {e : Env} {Γ : Mm} {d : Option Tmp} {ty t : TypeId} {x : Operand} {a : Int} (h : ev e x = some (.int .i64 a)) (h2 : -9223372036854775808 ≤ -a) (h3 : -a ≤ 9223372036854775807) (hr : GN P n all K m (push d (nu (-a)) e) Γ) : GX P n all K m d (.unOp .neg t x) ty e Γ := GX_pure (fun _ => does_neg h h2 h3) hr
theorem Wk.consV {Γ Γ1 Γ' : Mm} {α : Type} {enc : α → List Value} {sz : Nat} [N : Enc enc sz] {b k : Nat} {t : TypeId} {cs : List Value} {l : List α} (h : Rem Γ (.box b t cs) Γ1) (hD : Dec enc cs l) (hk : k = l.length) (hl : l.length ≤ maxLen) (h2 : Wk Γ1 Γ') : Wk Γ (.vec enc sz t (some ⟨b, 0, none⟩) k l :: Γ') := by
  subst hk
  exact (Wk.perm h.perm).trans ((Wk.vec hD.eq hl).trans (Wk.cons .here h2))
def rowJ (p : Hdl × List Int) : Mm := [.vec icell 1 3 p.1.1 p.1.2 p.2]
/-- The clauses of a formula, each with its handle. -/
structure CnfAt (w : World) (A : Option Addr) (ps : List (Hdl × List Int)) : Prop where
  row : RowA w encS 1 A ps
  each : ∀ p ∈ ps, RowA w icell 1 p.1.1 p.2
abbrev cnB (ps : List (Hdl × List Int)) (A : Option Addr) (k : Nat) : Mm := .vec encS 1 67 A k ps :: fam rowJ ps
theorem Wk.one {E : Ent} {Γ : Mm} : Wk (E :: Γ) [E] := Wk.cons .here .nil
theorem Wk.there {Γ Γ' : Mm} (h : Wk Γ Γ') : Wk Γ ([] ++ Γ') := h
theorem Upd.left {Θ Θ' Γ : Mm} {E F : Ent} (h : Upd Θ E F Θ') : Upd (Θ ++ Γ) E F (Θ' ++ Γ) := by
  induction h with
  | here => exact .here
  | there _ ih => exact .there ih
section
variable {P : Program} {n : Nat} {all : List Oper} {K : Env → Mm → Prop} {A : List Fl} {Θ Θ' C : Mm} {r : List PStep} {e : Env} {Γ Γ' : Mm} {j : Nat} {d : Option Tmp} {ty t t0 : TypeId} {x y : Operand}
/-- What was kept apart comes back. -/
theorem GS_nilP (h : K e (Θ ++ Γ)) : GS P n all K [] Θ [] e Γ := by
  intro B a Q fuel listed w hB ha hs M hQ hp hns hsz hsh hF hok
  obtain rfl : B = [] := by simpa using hB
  simp only [planM, Bool.and_eq_true, List.isEmpty_iff] at hok
  obtain rfl := Nat.eq_of_beq_eq_true hok.2
  exact ⟨hok.1.2, hQ a w e (Θ ++ Γ) ha (show Mem w (Θ ++ Γ) from M) h⟩
/-- Entries kept apart: no quiet operation looks at them. -/
theorem GC_drawsP {id : Nat} {l : List Oper} {Q : PostG} (pl : List PStep) (hm : P.follows .mixedOrders = true) (hns : Region.noSelect l.toArray = true) (hok : planM l.toArray pl l.toArray.size (Array.replicate l.toArray.size false) [] = true) (hC : Rems Γ C Γ')
    (h : GS P n l (fun e Γ => Q .normal e Γ) [] C pl e Γ') : GC P n (.region id l.toArray true) Q e Γ := fun w M a ha =>
  wp_region_any hm (wpAny_of_M _ _ _ _ _ (h [] a _ _ _ _ rfl ha (fun _ _ h => (by cases h)) (show Mem w.drew (C ++ Γ') from Mem.takes hC M.drew) (fun a' w' e' Γ' ha' M' hK => ⟨e', ha', Γ', M', hK⟩) lift_panic hns (by simp) (Shut.init _ _ _) ⟨fun _ h => (by cases h), List.Pairwise.nil, List.Pairwise.nil⟩ hok))
end
def rowL (p : Hdl × List Int) : Ent := .vec icell 1 3 p.1.1 p.1.2 p.2
theorem flat_row : ∀ ps : List (Hdl × List Int), ps.flatMap rowJ = ps.map rowL
  | [] => rfl
  | a :: r => by rw [List.flatMap_cons, flat_row r]; rfl
theorem fam_perm (ps : List (Hdl × List Int)) : (ps.map rowL).Perm (fam rowJ ps) := by
  have : fam rowJ ps = (ps.map rowL).reverse := by
    unfold fam
    rw [← List.map_reverse]
    exact flat_row _
  rw [this]
  exact (List.reverse_perm _).symm
section
variable {P : Program} {n : Nat} {all : List Oper} {K : Env → Mm → Prop} {m : Md} {e : Env} {Γ Γ' Γ1 Γ2 Θ : Mm} {d : Option Tmp} {ty t t0 : TypeId} {x y : Operand} {c : Code} {Q : PostG} {td : TypeDesc} {sz by_ : Nat} {zv : Value} {ag : Bool}
theorem Wk.part {C D : Mm} (hR : Rems Γ C Γ1) (h : Wk C D) (h2 : Wk Γ1 Γ') : Wk Γ (D ++ Γ') := by
  refine ⟨fun w M => ?_, fun k hk => ?_⟩
  · have M1 := M.perm hR.perm
    exact (h.mem w M1.left).join (h2.mem w M1.right) fun k k1 k2 => M1.sep k (h.sub k k1) (h2.sub k k2)
  · rw [owns_perm hR.perm, owns_append]
    exact (owns_append.1 hk).imp (h.sub k) (h2.sub k)
theorem bun_in {D : Mm} : Wk D [.any (bun D)] := ⟨fun w M => Mem.one (E := .any (bun D)) M, fun k hk => (owns_cons.1 hk).elim id fun h => absurd h owns_nil⟩
theorem bun_out {D : Mm} : Wk [.any (bun D)] D := ⟨fun w M => M.head, fun k hk => owns_cons.2 (.inl hk)⟩
theorem fam_mid (a b : List (Hdl × List Int)) (x : Hdl × List Int) : (fam rowJ (a ++ x :: b)).Perm (rowL x :: fam rowJ (a ++ b)) := by
  refine (fam_perm _).symm.trans ?_
  rw [List.map_append, List.map_cons]
  refine List.perm_middle.trans ((List.Perm.cons _) ?_)
  rw [← List.map_append]
  exact fam_perm _
theorem row_in (a b : List (Hdl × List Int)) (x : Hdl × List Int) : Wk [rowL x, .any (bun (fam rowJ (a ++ b)))] [.any (bun (fam rowJ (a ++ x :: b)))] :=
  (Wk.cons .here bun_out).trans ((Wk.perm (fam_mid a b x).symm).trans bun_in)
end
theorem Wk.app {C D Γ : Mm} (h : Wk C D) : Wk (C ++ Γ) (D ++ Γ) := ⟨fun w M => (h.mem w M.left).join M.right fun k k1 k2 => M.sep k (h.sub k k1) k2, fun k hk => owns_append.2 ((owns_append.1 hk).imp (h.sub k) id)⟩
theorem CVN.wk {P : Program} {f : FuncId} {args : List Value} {w : World} {R R' : Value → Mm → Prop} (h : CVN P f args w R) (hR : ∀ v N, R v N → ∃ N', Wk N N' ∧ R' v N') : CVN P f args w R' :=
  CV.mono h fun v w' ⟨N, M, hv⟩ => by
    obtain ⟨N', h1, h2⟩ := hR v N hv
    exact ⟨N', h1.app.mem w' M, h2⟩
theorem Wk.same {E F : Ent} (h1 : ∀ w, E.ok w → F.ok w) (h2 : ∀ k, F.own k → E.own k) : Wk [E] [F] := ⟨fun w M => Mem.one (h1 w M.head), fun k hk => owns_cons.2 ((owns_cons.1 hk).imp (h2 k) fun h => absurd h owns_nil)⟩
section
variable {P : Program} {e : Env} {w : World} {t : TypeId} {td : TypeDesc} {sz by_ : Nat} {zv : Value}
theorem results_ofC1 {fn : Func} {n : Nat} {a : Act} {ta r1 : Nat} [T : Ty P t td sz zv by_ true] (ha : Agree n e a) (hr : fn.results = (.cell ta t :: [ResultVar.tmp r1]).toArray) {p : Addr} {cs : List Value} {v1 : Value} (h0 : look e ta = some (.pointer (some p)))
    (hc : ∀ j u, cs[j]? = some u → w.cell? (p.add j) = some u) (hs : cs.length = sz) (h : look e r1 = some v1) : (results fn a.tmps).run P w = .ok (retVal [.agg cs.toArray, v1]) w := by
  have ht : ∀ t v, look e t = some v → a.tmps[t]? = some v := ha.tmps
  have hr0 := run_loadCells_list (P := P) w p cs hc
  subst hs
  simp [results, hr, retVal, ht _ _ h0, ht _ _ h, asAddr, loadVar, T.agg, T.size, hr0, Result.andThen]
end
def retGC1 (a sz r1 : Nat) (R : Value → Mm → Prop) : PostG
  | .ret, e, Γ => ∃ b t cs v, look e a = some (.pointer (some ⟨b, 0, none⟩)) ∧ In Γ (.box b t cs) ∧ cs.length = sz ∧ look e r1 = some v ∧ R (.tuple #[.agg cs.toArray, v]) Γ
  | .normal, e, Γ => ∃ b t cs v, look e a = some (.pointer (some ⟨b, 0, none⟩)) ∧ In Γ (.box b t cs) ∧ cs.length = sz ∧ look e r1 = some v ∧ R (.tuple #[.agg cs.toArray, v]) Γ
  | _, _, _ => False
theorem CVN.enterC1 {P : Program} {f : FuncId} {args : List Value} {w : World} {R : Value → Mm → Prop} {t : TypeId} {td : TypeDesc} {sz by_ : Nat} {zv : Value} {fn : Func} {c : Code} (n a r1 : Nat) [T : Ty P t td sz zv by_ true] (hf : P.funcs[f]? = some fn) (hb : fn.body = some c)
    (hn : fn.ntmps = n) (hr : fn.results = (.cell a t :: [ResultVar.tmp r1]).toArray) (hs : Nat.ble args.length n = true) (h : GC P n c (retGC1 a sz r1 fun v Γ => ∃ N, Wk Γ (N ++ [.old w none_]) ∧ R v N) (argEnv args 0) [.old w none_]) : CVN P f args w R := by
  refine calls_of_wp hf hb ?_
  have hA : Agree n (argEnv args 0) { tmps := args.toArray ++ Array.replicate (fn.ntmps - args.toArray.size) undef, defers := [] } := by
    have hs' := Nat.le_of_ble_eq_true hs
    refine ⟨by simp [hn]; omega, rfl, fun t v hv => ?_⟩
    obtain ⟨_, h2⟩ := argEnv_look args 0 t v hv
    have hlt : t < args.length := (List.getElem?_eq_some_iff.1 h2).1
    rw [Array.getElem?_append_left (by simpa using hlt)]
    simpa using h2
  have key : ∀ (a' : Act) (w' : World) (e : Env) (Γ : Mm), Agree n e a' → Mem w' Γ → (∃ b t' cs v, look e a = some (.pointer (some ⟨b, 0, none⟩)) ∧ In Γ (.box b t' cs) ∧ cs.length = sz ∧ look e r1 = some v ∧ ∃ N, Wk Γ (N ++ [.old w none_]) ∧ R (.tuple #[.agg cs.toArray, v]) N) → a'.defers = [] ∧ ∃ v, (results fn a'.tmps).run P w' = .ok v w' ∧ ∃ N, Mem w' (N ++ [.old w none_]) ∧ R v N := by
    intro a' w' e Γ ha M ⟨b, t', cs, v, h0, hi, hz, h1, N, h2, h3⟩
    refine ⟨ha.defers, _, results_ofC1 (T := T) ha hr h0 (fun j u hj => ?_) hz h1, N, h2.mem w' M, h3⟩
    rw [add_at, Nat.zero_add, (show Blk w' b t' cs from hi.ok M).cell]
    exact hj
  refine wp_mono (h w (Mem.start w) _ hA) ?_
  intro s a' w' hq
  cases s with
  | normal => obtain ⟨e, ha, Γ, M, h⟩ := hq; exact key a' w' e Γ ha M h
  | ret => obtain ⟨e, ha, Γ, M, h⟩ := hq; exact key a' w' e Γ ha M h
  | exit i => obtain ⟨e, _, Γ, M, h⟩ := hq; exact h
  | goto l => obtain ⟨e, _, Γ, M, h⟩ := hq; exact h
  | panic c => exact hq.elim
  | outgrown => exact hq.elim
theorem retGC1r {R : Value → Mm → Prop} {e : Env} {Γ : Mm} {a sz b r1 : Nat} {v : Value} {t : TypeId} {cs : List Value} (h : look e a = some (.pointer (some ⟨b, 0, none⟩))) (hi : In Γ (.box b t cs)) (hl : cs.length = sz) (h1 : look e r1 = some v) (hr : R (.tuple #[.agg cs.toArray, v]) Γ) : retGC1 a sz r1 R .ret e Γ := ⟨b, t, cs, v, h, hi, hl, h1, hr⟩
end SC
end Go.Proofs.Ytbmngkdnebklpaa
end
section
/- trestlebook: SameCnf, SpoilCnf; lists of numbers lent. -/
set_option linter.unusedVariables false
set_option linter.unusedSimpArgs false
namespace Go.Proofs.Ytbmngkdnebklpaa
namespace SC
open Go.Proofs
theorem In.rowL {Γ : Mm} {w : World} {t : TypeId} {A : Option Addr} {c : Nat} {l : List Int} (h : In Γ (.vec icell 1 t A c (l ++ [-77]))) (M : Mem w Γ) : RowA w icell 1 A l := RowA.left (h.row M)
attribute [local irreducible] WC WL WX WS WO OX Does DoesU Enters CV Pure thenQ blockQ retQ Wants retQC GC GL GS GX RdB thenG blockG retG Rd At gt CVN CVM
set_option maxRecDepth 100000
theorem sameClauses_cv {w : World} {A B : Option Addr} {k k2 : Nat} {ps qs : List (Hdl × List Int)} (H : CnfAt w A ps) (H' : CnfAt w B qs) (E : ps.map (·.2) = qs.map (·.2)) (hn : ps.length ≤ 1000000) (hb : ∀ p ∈ ps, p.2.length ≤ 1000) :
    CVN Try.prog 13 [.slice A ps.length k, .slice B qs.length k2] w fun v N => N = [] ∧ v = .bool true := by
  have hl : ps.length = qs.length := by have := congrArg List.length E; simpa using this
  have hA := H.row
  have hB := H'.row
  refine CVN.enter 27 [4] Try.func13 rfl rfl rfl (by decide) rfl ?_
  repeat' (first
 | (apply GC_seqK; intro K hK)
 | (apply hK; clear hK K)
 | (apply GC_block)
 | (apply GC_region)
 | (apply GL_nil)
 | (apply thenG_normal)
 | (apply GC_skip)
 | (apply GC_if_false; eq_refl)
 | (apply GL_on; eq_refl; eq_refl)
 | (apply G_pv; eq_refl; first | exact trivial | omega)
 | (apply G_cmpF; eq_refl; eq_refl; omega)
 | (apply G_len; eq_refl))
  refine GC_loopK [0, 1] (fun i : Nat => [(5, nu i)]) (fun _ => [.old w none_]) (fun i => i ≤ ps.length) (fun i => ps.length - i) 0 (by repeat first | exact Pick.nil | (apply Pick.cons; eq_refl)) (by repeat first | exact trivial | refine ⟨rfl, ?_⟩) (by repeat first | exact Wk.nil | exact Wk.refl | (apply Wk.cons; (focus ((repeat first | exact Rem.here | apply Rem.there | apply Rem.skip); done))) | apply Wk.nilv | apply Wk.last | apply Wk.drop) (Nat.zero_le _) ?_
  intro i hi
  rcases Nat.lt_or_ge i ps.length with hlt | hge
  · have hs : (gt ps (i : Int)).2 = (gt qs (i : Int)).2 := gt_snd E hlt
    have g1 := gt_mem (l := ps) (i := (i : Int)) (by omega) (by omega)
    have g2 := gt_mem (l := qs) (i := (i : Int)) (by omega) (by omega)
    have r1 := H.each _ g1
    have r2 := H'.each _ g2
    have b1 := hb _ g1
    generalize hx : gt ps (i : Int) = x at *
    generalize hy : gt qs (i : Int) = y at *
    obtain ⟨x1, l1⟩ := x
    obtain ⟨y1, l2⟩ := y
    dsimp only at hs r1 r2 b1
    subst hs
    have hsi : ∀ Γ, In Γ (.old w none_) → ∀ w', Mem w' Γ → CVN Try.prog 37 [.slice x1.1 l1.length x1.2, .slice y1.1 l1.length y1.2] w' fun v N => N = [] ∧ v = .bool true := fun Γ ho w' M => sameIntsG (r1.chg (ho.old M)) (r2.chg (ho.old M)) (by omega)
    repeat' (first
 | (apply G_call; eq_refl; eq_refl; (apply hsi; (repeat first | exact In.here | apply In.there | apply In.skip)); rintro _ _ ⟨rfl, rfl⟩)
 | (apply G_rd; eq_refl; (first | (apply Rd.own; (repeat first | exact In.here | apply In.there | apply In.skip); infer_instance) | (apply Rd.old; (repeat first | exact In.here | apply In.there | apply In.skip); assumption) | (apply Rd.oldR; (repeat first | exact In.here | apply In.there | apply In.skip); assumption) | exact Rd.nil | assumption); (case ih => infer_instance); omega; omega; (first | (rw [hx]; dsimp only [encS]; eq_refl) | (rw [hy]; dsimp only [encS]; eq_refl)))
 | (apply GC_seqK; intro K hK)
 | (apply hK; clear hK K)
 | (apply GC_block)
 | (apply GC_region)
 | (apply GL_nil)
 | (apply thenG_normal)
 | (apply blockG_normal)
 | (apply GC_skip)
 | (apply GC_if_true; eq_refl)
 | (apply GC_if_false; eq_refl)
 | (apply GL_on; eq_refl; eq_refl)
 | (refine GC_draws (id := 6) [.q 0, .q 1, .q 2, .q 3, .q 4, .q 5, .q 6, .q 7, .c 8, .q 9] mixed (by kernel_rfl) (by kernel_rfl) ?_)
 | (apply GS_nil)
 | (apply GS_qon; eq_refl; eq_refl; eq_refl; eq_refl)
 | (apply GS_con; eq_refl; eq_refl; eq_refl; eq_refl)
 | (apply G_pv; eq_refl; first | exact trivial | omega)
 | (apply G_cmpT; eq_refl; eq_refl; omega)
 | (apply G_len; eq_refl)
 | (apply G_ix; eq_refl; eq_refl; (first | (apply Rd.own; (repeat first | exact In.here | apply In.there | apply In.skip); infer_instance) | (apply Rd.old; (repeat first | exact In.here | apply In.there | apply In.skip); assumption) | (apply Rd.oldR; (repeat first | exact In.here | apply In.there | apply In.skip); assumption) | exact Rd.nil | assumption); (first | eq_refl | omega); omega; omega))
    exact ⟨i + 1, (by repeat first | exact trivial | refine ⟨rfl, ?_⟩), (by repeat first | exact Wk.nil | exact Wk.refl | (apply Wk.cons; (focus ((repeat first | exact Rem.here | apply Rem.there | apply Rem.skip); done))) | apply Wk.nilv | apply Wk.last | apply Wk.drop), hlt, by omega⟩
  · repeat' (first
 | (apply GC_seqK; intro K hK)
 | (apply hK; clear hK K)
 | (clear hK K; apply hK; clear hK K)
 | (apply GC_region)
 | (apply GL_nil)
 | (apply thenG_normal)
 | (apply thenG_exit)
 | (apply blockG_hit)
 | (apply GC_ret)
 | (apply GC_exit)
 | (apply GC_if_false; eq_refl)
 | (apply retG1; eq_refl)
 | (apply GL_on; eq_refl; eq_refl)
 | (apply G_pv; eq_refl; first | exact trivial | omega)
 | (apply G_cmpF; eq_refl; eq_refl; omega)
 | (apply G_len; eq_refl))
    exact ⟨[], (by repeat first | exact Wk.nil | exact Wk.refl | (apply Wk.cons; (focus ((repeat first | exact Rem.here | apply Rem.there | apply Rem.skip); done))) | apply Wk.nilv | apply Wk.last | apply Wk.drop), rfl, rfl⟩
theorem spoilCnf_cv {w : World} {V mark : Int} {A : Option Addr} {k : Nat} {ps : List (Hdl × List Int)} (hn : ps.length ≤ 1000000) (M : Mem w (cnB ps A k)) : CVM Try.prog 28 [.agg #[nu V, .slice A ps.length k], nu mark] w (cnB ps A k) fun v N => N = [] := by
  have h7 : ∀ (A : Option Addr) (k' : Nat) (l : List Int), ∀ w', Mem w' [.vec icell 1 3 A k' l] → CVM Try.prog 58 [.slice A l.length k', nu mark] w' [.vec icell 1 3 A k' l] _ := fun A k' l w' M => spoilIntsG M
  refine CVM.enter 25 [] Try.func28 rfl rfl rfl (by decide) rfl M ?_
  repeat' (first
 | (apply GC_seqK; intro K hK)
 | (apply hK; clear hK K)
 | (apply GC_block)
 | (apply GC_region)
 | (apply GL_nil)
 | (apply thenG_normal)
 | (apply GL_on; eq_refl; eq_refl)
 | (apply G_pv; eq_refl; first | exact trivial | omega)
 | (apply G_box; eq_refl; eq_refl; intro _))
  rename_i b2
  refine GC_loopK [1, 2] (fun s : Nat × List (Hdl × List Int) => [(4, nu s.1)]) (fun s => .vec encS 1 67 A k s.2 :: .box b2 34 [nu V, .slice A ps.length k] :: .old w (owns (cnB ps A k)) :: fam rowJ (ps.drop s.1)) (fun s => s.1 ≤ ps.length ∧ s.2.length = ps.length ∧ s.2.drop s.1 = ps.drop s.1) (fun s => ps.length - s.1) (0, ps) (by repeat first | exact Pick.nil | (apply Pick.cons; eq_refl)) (by repeat first | exact trivial | refine ⟨rfl, ?_⟩) (by repeat first | exact Wk.left | exact Wk.nil | exact Wk.refl | (apply Wk.cons; (focus ((repeat first | exact Rem.here | apply Rem.there | apply Rem.skip); done))) | apply Wk.nilv | apply Wk.last | apply Wk.drop) ⟨Nat.zero_le _, rfl, rfl⟩ ?_
  rintro ⟨i, qs⟩ ⟨hi, hq, hd⟩
  dsimp only at hi hq hd ⊢
  rcases Nat.lt_or_ge i ps.length with hlt | hge
  · have e1 := List.drop_eq_getElem_cons hlt
    have e2 := List.drop_eq_getElem_cons (l := qs) (i := i) (by omega)
    have e3 : gt qs (i : Int) = gt ps (i : Int) := by
      rw [e1, e2] at hd
      rw [gt_nat hlt, gt_nat (by omega)]
      exact (List.cons.inj hd).1
    rw [← gt_nat hlt] at e1
    rw [e1, fam_cons]
    generalize hx : gt ps (i : Int) = x at *
    obtain ⟨x1, l1⟩ := x
    rw [show rowJ (x1, l1) = [.vec icell 1 3 x1.1 x1.2 l1] from rfl]
    repeat' (first
 | (apply G_callM2; exact wr_p; eq_refl; (apply h7); (repeat first | exact Rems.nil | (apply Rems.cons; (focus ((repeat first | exact Rem.here | apply Rem.there | apply Rem.skip); done)))); rintro _ _ rfl)
 | (apply G_rd; eq_refl; (first | (apply Rd.own; (repeat first | exact In.here | apply In.there | apply In.skip); infer_instance) | (apply Rd.old; (repeat first | exact In.here | apply In.there | apply In.skip); assumption) | (apply Rd.oldR; (repeat first | exact In.here | apply In.there | apply In.skip); assumption) | exact Rd.nil | assumption); (case ih => infer_instance); omega; omega; (rw [e3]; dsimp only [encS]; eq_refl))
 | (apply GC_seqK; intro K hK)
 | (apply hK; clear hK K)
 | (apply GC_block)
 | (apply GC_region)
 | (apply GL_nil)
 | (apply thenG_normal)
 | (apply GC_skip)
 | (apply GC_if_true; eq_refl)
 | (apply GL_on; eq_refl; eq_refl)
 | (apply G_pv; eq_refl; first | exact trivial | omega)
 | (apply G_field; eq_refl)
 | (apply G_ld; eq_refl; (repeat first | exact In.here | apply In.there | apply In.skip); eq_refl)
 | (apply G_cmpT; eq_refl; eq_refl; omega)
 | (apply G_len; eq_refl)
 | (apply G_ix; eq_refl; eq_refl; (first | (apply Rd.own; (repeat first | exact In.here | apply In.there | apply In.skip); infer_instance) | (apply Rd.old; (repeat first | exact In.here | apply In.there | apply In.skip); assumption) | (apply Rd.oldR; (repeat first | exact In.here | apply In.there | apply In.skip); assumption) | exact Rd.nil | assumption); (first | eq_refl | omega); omega; omega)
 | (apply G_new (fun b => .slice (some ⟨b, 0, none⟩) 1 1); eq_refl; (intro _; apply buildS67_1 <;> eq_refl); intro _))
    rename_i bn
    apply G_stV (a := (((some ⟨bn, 0, none⟩, 1), [mark]) : Hdl × List Int))
    exact wr_p
    eq_refl
    eq_refl
    eq_refl
    eq_refl
    (repeat first | exact Upd.here | apply Upd.there | apply Upd.skip)
    infer_instance
    infer_instance
    eq_refl
    omega
    omega
    repeat' (first
 | (apply hK; clear hK K)
 | (apply GC_region)
 | (apply GL_nil)
 | (apply thenG_normal)
 | (apply blockG_normal)
 | (apply GL_on; eq_refl; eq_refl)
 | (apply G_pv; eq_refl; first | exact trivial | omega))
    refine ⟨(i + 1, qs.set (i : Int).toNat ((some ⟨bn, 0, none⟩, 1), [mark])), (by repeat first | exact trivial | refine ⟨rfl, ?_⟩), (by repeat first | exact Wk.left | exact Wk.nil | exact Wk.refl | (apply Wk.cons; (focus ((repeat first | exact Rem.here | apply Rem.there | apply Rem.skip); done))) | apply Wk.nilv | apply Wk.last | apply Wk.drop), ⟨hlt, by simp only; rw [List.length_set]; exact hq, ?_⟩, by simp only; omega⟩
    simp only
    rw [Int.toNat_natCast, List.drop_set_of_lt (by omega), ← List.drop_drop, ← List.drop_drop, hd]
  · repeat' (first
 | (apply GC_seqK; intro K hK)
 | (apply hK; clear hK K)
 | (apply GC_region)
 | (apply GL_nil)
 | (apply thenG_normal)
 | (apply thenG_exit)
 | (apply blockG_hit)
 | (apply GC_exit)
 | (apply GC_if_false; eq_refl)
 | (apply retG0n)
 | (apply GL_on; eq_refl; eq_refl)
 | (apply G_pv; eq_refl; first | exact trivial | omega)
 | (apply G_field; eq_refl)
 | (apply G_ld; eq_refl; (repeat first | exact In.here | apply In.there | apply In.skip); eq_refl)
 | (apply G_cmpF; eq_refl; eq_refl; omega)
 | (apply G_len; eq_refl))
    exact ⟨[], (Wk.there (by repeat first | exact Wk.one | apply Wk.drop)), rfl⟩
end SC
end Go.Proofs.Ytbmngkdnebklpaa
end
section
/- frames: literals at a step, the clauses of a step, of what comes next, of the resets, of a run: plain words. -/
set_option linter.unusedVariables false
set_option linter.unusedSimpArgs false
namespace Go.Proofs.Ytbmngkdnebklpaa
namespace SC
open Go.Proofs
/-- A circuit's literal at a step. -/
def atM (mx l t : Int) : Int := if l % 2 = 1 then -(if 0 < l / 2 then 1 + t * mx + l / 2 else 1) else if 0 < l / 2 then 1 + t * mx + l / 2 else 1
def gateS (mx t : Int) (x : Tri) : List (List Int) := [[-atM mx x.1 t, atM mx x.2.1 t], [-atM mx x.1 t, atM mx x.2.2 t], [atM mx x.1 t, -atM mx x.2.1 t, -atM mx x.2.2 t]]
def nxtS (mx t : Int) (x : Tri) : List (List Int) := [[-atM mx x.1 (t + 1), atM mx x.2.1 t], [atM mx x.1 (t + 1), -atM mx x.2.1 t]]
def rstS (mx : Int) (x : Tri) : List (List Int) := if x.2.2 = 0 then [[-atM mx x.1 0]] else if x.2.2 = 1 then [[atM mx x.1 0]] else []
def gatesS (c : Circ) (t : Int) : List (List Int) := c.ands.flatMap (gateS c.max t)
def consS (c : Circ) (t : Int) : List (List Int) := c.constraints.map fun l => [atM c.max l t]
def stepS (c : Circ) (t : Int) : List (List Int) := gatesS c t ++ consS c t
def nextS (c : Circ) (t : Int) : List (List Int) := c.latches.flatMap (nxtS c.max t)
def firstS (c : Circ) : List (List Int) := c.latches.flatMap (rstS c.max)
/-- The formula of n + 1 steps. -/
def runS (c : Circ) : Nat → List (List Int)
  | 0 => [-1] :: firstS c ++ stepS c 0
  | n + 1 => runS c n ++ nextS c (n : Int) ++ stepS c ((n : Int) + 1)
theorem atM_le {mx l t : Int} (h0 : 0 ≤ l) (h1 : l ≤ 40000) (h2 : 0 ≤ t * mx) (h3 : t * mx ≤ 10000000) : -10050000 ≤ atM mx l t ∧ atM mx l t ≤ 10050000 := by
  unfold atM
  generalize t * mx = z at *
  split <;> split <;> omega
theorem mul_le {t mx : Int} (h0 : 0 ≤ t) (h1 : t ≤ 600) (h2 : 0 ≤ mx) (h3 : mx ≤ 16384) : 0 ≤ t * mx ∧ t * mx ≤ 10000000 := by
  refine ⟨Int.mul_nonneg h0 h2, ?_⟩
  have := Int.mul_le_mul h1 h3 h2 (by decide : (0 : Int) ≤ 600)
  omega
theorem flat_snoc {α β : Type} [Inhabited α] {f : α → List β} {l : List α} {i : Nat} (h : i < l.length) : (l.take (i + 1)).flatMap f = (l.take i).flatMap f ++ f (gt l (i : Int)) := by
  rw [List.take_succ_eq_append_getElem h, List.flatMap_append, gt_nat h]
  simp
theorem gateS_len {mx t : Int} {x : Tri} : (gateS mx t x).length = 3 := rfl
theorem nxtS_len {mx t : Int} {x : Tri} : (nxtS mx t x).length = 2 := rfl
theorem rstS_len {mx : Int} {x : Tri} : (rstS mx x).length ≤ 1 := by
  unfold rstS
  split
  · exact Nat.le_refl 1
  · split
    · exact Nat.le_refl 1
    · exact Nat.zero_le _
theorem flat_le {α β : Type} {f : α → List β} {k : Nat} (h : ∀ a, (f a).length ≤ k) : ∀ l : List α, (l.flatMap f).length ≤ k * l.length
  | [] => Nat.zero_le _
  | a :: r => by
    have := flat_le h r
    have := h a
    rw [List.flatMap_cons, List.length_append, List.length_cons, Nat.mul_succ]
    omega
theorem flat_eq {α β : Type} {f : α → List β} {k : Nat} (h : ∀ a, (f a).length = k) : ∀ l : List α, (l.flatMap f).length = k * l.length
  | [] => rfl
  | a :: r => by
    have := flat_eq h r
    have := h a
    rw [List.flatMap_cons, List.length_append, List.length_cons, Nat.mul_succ]
    omega
theorem gatesS_len (c : Circ) (t : Int) : (gatesS c t).length = 3 * c.ands.length := flat_eq (fun _ => gateS_len) _
theorem nextS_len (c : Circ) (t : Int) : (nextS c t).length = 2 * c.latches.length := flat_eq (fun _ => nxtS_len) _
theorem firstS_len (c : Circ) : (firstS c).length ≤ c.latches.length := by have := flat_le (fun x => rstS_len (mx := c.max) (x := x)) c.latches; unfold firstS; omega
theorem consS_len (c : Circ) (t : Int) : (consS c t).length = c.constraints.length := List.length_map _
theorem stepS_len (c : Circ) (t : Int) : (stepS c t).length = 3 * c.ands.length + c.constraints.length := by unfold stepS; rw [List.length_append, gatesS_len, consS_len]
/-- Clauses of at most three literals. -/
def Thin (m : List (List Int)) : Prop := ∀ l ∈ m, l.length ≤ 3
theorem Thin.app {a b : List (List Int)} (h : Thin a) (h2 : Thin b) : Thin (a ++ b) := fun l hl => (List.mem_append.1 hl).elim (h l) (h2 l)
theorem Thin.flat {α : Type} {f : α → List (List Int)} (h : ∀ a, Thin (f a)) (l : List α) : Thin (l.flatMap f) := fun x hx => by
  obtain ⟨a, _, ha⟩ := List.mem_flatMap.1 hx
  exact h a x ha
theorem gateS_thin {mx t : Int} {x : Tri} : Thin (gateS mx t x) := fun l hl => by
  unfold gateS at hl
  simp only [List.mem_cons, List.not_mem_nil, or_false] at hl
  rcases hl with rfl | rfl | rfl <;> exact Nat.le_of_ble_eq_true rfl
theorem nxtS_thin {mx t : Int} {x : Tri} : Thin (nxtS mx t x) := fun l hl => by
  unfold nxtS at hl
  simp only [List.mem_cons, List.not_mem_nil, or_false] at hl
  rcases hl with rfl | rfl <;> exact Nat.le_of_ble_eq_true rfl
theorem rstS_thin {mx : Int} {x : Tri} : Thin (rstS mx x) := fun l hl => by
  unfold rstS at hl
  split at hl
  · simp at hl; subst hl; exact Nat.le_of_ble_eq_true rfl
  · split at hl
    · simp at hl; subst hl; exact Nat.le_of_ble_eq_true rfl
    · cases hl
theorem stepS_thin (c : Circ) (t : Int) : Thin (stepS c t) := Thin.app (Thin.flat (fun _ => gateS_thin) _) fun l hl => by
  obtain ⟨x, _, rfl⟩ := List.mem_map.1 hl
  exact Nat.le_of_ble_eq_true rfl
theorem nextS_thin (c : Circ) (t : Int) : Thin (nextS c t) := Thin.flat (fun _ => nxtS_thin) _
theorem firstS_thin (c : Circ) : Thin (firstS c) := Thin.flat (fun _ => rstS_thin) _
theorem runS_len (c : Circ) : ∀ n : Nat, (runS c n).length = 1 + (firstS c).length + (n + 1) * (3 * c.ands.length + c.constraints.length) + n * (2 * c.latches.length)
  | 0 => by
    show ([-1] :: firstS c ++ stepS c 0).length = _
    rw [List.length_append, List.length_cons, stepS_len]
    omega
  | n + 1 => by
    show (runS c n ++ nextS c (n : Int) ++ stepS c ((n : Int) + 1)).length = _
    rw [List.length_append, List.length_append, runS_len c n, nextS_len, stepS_len, Nat.succ_mul (n + 1), Nat.succ_mul n (2 * c.latches.length)]
    omega
/-- What is wrong with a step of that number, so many steps asked for. -/
noncomputable def ftE (c : Circ) (t most n : Int) : Int := if (lookM c).2 ≠ 0 then (lookM c).2 else if t < 0 ∨ most < t then 1 else if 262144 < 1 + n * c.max then 6 else 0
/-- What is wrong with so many steps. -/
noncomputable def vrE (c : Circ) (n : Int) : Int := if (lookM c).2 ≠ 0 then (lookM c).2 else if n < 1 ∨ 512 < n then 1 else if 262144 < 1 + n * c.max then 6 else 0
end SC
end Go.Proofs.Ytbmngkdnebklpaa
end
section
/- Clauses in memory, their rows bound together. -/
set_option linter.unusedVariables false
set_option linter.unusedSimpArgs false
namespace Go.Proofs.Ytbmngkdnebklpaa
namespace SC
open Go.Proofs
def CliR (m : List (List Int)) (v : Value) (N : Mm) : Prop := ∃ ps A k, v = .slice A ps.length k ∧ ps.map (·.2) = m ∧ N = [.vec encS 1 67 A k ps, .any (bun (fam rowJ ps))]
section
variable {Γ Γ' Γ1 Γ2 : Mm}
theorem row_snoc (ps : List (Hdl × List Int)) (x : Hdl × List Int) : Wk [rowL x, .any (bun (fam rowJ ps))] [.any (bun (fam rowJ (ps ++ [x])))] := by
  have := row_in ps [] x
  rw [List.append_nil] at this
  exact this
theorem rows_app (ps qs : List (Hdl × List Int)) : Wk [.any (bun (fam rowJ ps)), .any (bun (fam rowJ qs))] [.any (bun (fam rowJ (ps ++ qs)))] := by
  rw [fam_app]
  refine Wk.trans ?_ bun_in
  refine Wk.trans (Wk.part (C := [.any (bun (fam rowJ qs))]) (Γ1 := [.any (bun (fam rowJ ps))]) (Rems.cons (.there .here) .nil) bun_out bun_out) ?_
  exact .refl
theorem rows_nil : Wk Γ Γ' → Wk Γ (.any (bun (fam rowJ [])) :: Γ') := fun h => ⟨fun w M => (h.mem w M).cons (E := .any (bun (fam rowJ []))) Mem.nil fun k hk => absurd hk owns_nil, fun k hk => by
  rcases owns_cons.1 hk with h1 | h1
  · exact absurd h1 owns_nil
  · exact h.sub k h1⟩
/-- A row more, at the head. -/
theorem Wk.snoc {ps : List (Hdl × List Int)} {x : Hdl × List Int} (h1 : Rem Γ (.any (bun (fam rowJ ps))) Γ1) (h2 : Rem Γ1 (rowL x) Γ2) (h : Wk Γ2 Γ') : Wk Γ (.any (bun (fam rowJ (ps ++ [x]))) :: Γ') := by
  refine Wk.part (C := [.any (bun (fam rowJ ps)), rowL x]) (D := [.any (bun (fam rowJ (ps ++ [x])))]) (Rems.cons h1 (Rems.cons h2 .nil)) ?_ h
  exact (Wk.perm (List.Perm.swap ..)).trans (row_snoc ps x)
theorem Wk.rows {ps qs : List (Hdl × List Int)} (h1 : Rem Γ (.any (bun (fam rowJ ps))) Γ1) (h2 : Rem Γ1 (.any (bun (fam rowJ qs))) Γ2) (h : Wk Γ2 Γ') : Wk Γ (.any (bun (fam rowJ (ps ++ qs))) :: Γ') :=
  Wk.part (C := [.any (bun (fam rowJ ps)), .any (bun (fam rowJ qs))]) (D := [.any (bun (fam rowJ (ps ++ qs)))]) (Rems.cons h1 (Rems.cons h2 .nil)) (rows_app ps qs) h
theorem Wk.add1 {ps : List (Hdl × List Int)} {b k : Nat} {l : List Int} (h0 : Rem Γ (.any (bun (fam rowJ ps))) Γ1) (h1 : Rem Γ1 (.box b 3 (l.flatMap icell)) Γ2) (hk : k = l.length) (hl : l.length ≤ 1000) (h : Wk Γ2 Γ') : Wk Γ (.any (bun (fam rowJ (ps ++ [((some ⟨b, 0, none⟩, k), l)]))) :: Γ') := by
  subst hk
  have e : Wk [.box b 3 (l.flatMap icell)] [rowL ((some ⟨b, 0, none⟩, l.length), l)] := Wk.vec rfl (by unfold maxLen; omega)
  refine Wk.part (C := [.any (bun (fam rowJ ps)), .box b 3 (l.flatMap icell)]) (D := [.any (bun (fam rowJ (ps ++ [((some ⟨b, 0, none⟩, l.length), l)])))]) (Rems.cons h0 (Rems.cons h1 .nil)) ?_ h
  refine Wk.trans ?_ (row_snoc ps ((some ⟨b, 0, none⟩, l.length), l))
  refine (Wk.perm (List.Perm.swap ..)).trans ?_
  exact Wk.part (C := [.box b 3 (l.flatMap icell)]) (D := [rowL ((some ⟨b, 0, none⟩, l.length), l)]) (.cons .here .nil) e .refl
theorem Wk.add2 {Γ3 : Mm} {ps : List (Hdl × List Int)} {b b2 k k2 : Nat} {l l2 : List Int} (h0 : Rem Γ (.any (bun (fam rowJ ps))) Γ1) (h1 : Rem Γ1 (.box b 3 (l.flatMap icell)) Γ2) (h2 : Rem Γ2 (.box b2 3 (l2.flatMap icell)) Γ3) (hk : k = l.length) (hk2 : k2 = l2.length) (hl : l.length ≤ 1000) (hl2 : l2.length ≤ 1000) (h : Wk Γ3 Γ') : Wk Γ (.any (bun (fam rowJ (ps ++ [((some ⟨b, 0, none⟩, k), l), ((some ⟨b2, 0, none⟩, k2), l2)]))) :: Γ') := by
  rw [show ps ++ [((some ⟨b, 0, none⟩, k), l), ((some ⟨b2, 0, none⟩, k2), l2)] = (ps ++ [((some ⟨b, 0, none⟩, k), l)]) ++ [((some ⟨b2, 0, none⟩, k2), l2)] by simp]
  exact (Wk.add1 h0 h1 hk hl .refl).trans (Wk.add1 .here h2 hk2 hl2 h)
theorem Wk.add3 {Γ3 Γ4 : Mm} {ps : List (Hdl × List Int)} {b b2 b3 k k2 k3 : Nat} {l l2 l3 : List Int} (h0 : Rem Γ (.any (bun (fam rowJ ps))) Γ1) (h1 : Rem Γ1 (.box b 3 (l.flatMap icell)) Γ2) (h2 : Rem Γ2 (.box b2 3 (l2.flatMap icell)) Γ3) (h3 : Rem Γ3 (.box b3 3 (l3.flatMap icell)) Γ4) (hk : k = l.length) (hk2 : k2 = l2.length) (hk3 : k3 = l3.length) (hl : l.length ≤ 1000) (hl2 : l2.length ≤ 1000) (hl3 : l3.length ≤ 1000) (h : Wk Γ4 Γ') : Wk Γ (.any (bun (fam rowJ (ps ++ [((some ⟨b, 0, none⟩, k), l), ((some ⟨b2, 0, none⟩, k2), l2), ((some ⟨b3, 0, none⟩, k3), l3)]))) :: Γ') := by
  rw [show ps ++ [((some ⟨b, 0, none⟩, k), l), ((some ⟨b2, 0, none⟩, k2), l2), ((some ⟨b3, 0, none⟩, k3), l3)] = (ps ++ [((some ⟨b, 0, none⟩, k), l), ((some ⟨b2, 0, none⟩, k2), l2)]) ++ [((some ⟨b3, 0, none⟩, k3), l3)] by simp]
  exact (Wk.add2 h0 h1 h2 hk hk2 hl hl2 .refl).trans (Wk.add1 .here h3 hk3 hl3 h)
end
theorem Cli.at {w : World} {A : Option Addr} {k : Nat} {ps : List (Hdl × List Int)} {Γ : Mm} (h1 : In Γ (.vec encS 1 67 A k ps)) (h2 : In Γ (.any (bun (fam rowJ ps)))) (M : Mem w Γ) : CnfAt w A ps := by
  refine ⟨h1.row M, fun p hp => ?_⟩
  have hE := fam_mem (f := rowJ) hp (E := .vec icell 1 3 p.1.1 p.1.2 p.2) (by unfold rowJ; simp)
  exact (In.of hE).row (h2.bun M)
end SC
end Go.Proofs.Ytbmngkdnebklpaa
end
section
/- frames: literals, gates, constraints, next, first, step: the walks. -/
set_option linter.unusedVariables false
set_option linter.unusedSimpArgs false
namespace Go.Proofs.Ytbmngkdnebklpaa
namespace SC
open Go.Proofs
attribute [local irreducible] WC WL WX WS WO OX Does DoesU Enters CV Pure thenQ blockQ retQ Wants retQC GC GL GS GX RdB thenG blockG retG Rd At gt CVN CVM
set_option maxRecDepth 100000
theorem at_cv {w : World} {c : Circ} {h : Hd} {l t : Int} (h0 : 0 ≤ l) (h1 : l ≤ 40000) (h2 : 0 ≤ t * c.max) (h3 : t * c.max ≤ 10000000) : CVN Try.prog 43 [.agg (ccells c h).toArray, nu l, nu t] w fun v N => N = [] ∧ v = nu (atM c.max l t) := by
  refine CVN.enter 25 [6] Try.func43 rfl rfl rfl (by decide) rfl ?_
  by_cases hb : l % 2 = 1
  · by_cases hv : 0 < l / 2
    · have e : atM c.max l t = -(1 + t * c.max + l / 2) := by unfold atM; rw [if_pos hb, if_pos hv]
      rw [e]
      repeat' (first
 | (apply GC_seqK; intro K hK)
 | (apply hK; clear hK K)
 | (apply GC_region)
 | (apply GL_nil)
 | (apply thenG_normal)
 | (apply thenG_ret)
 | (apply GC_ret)
 | (apply GC_if_true; eq_refl)
 | (apply retG1; eq_refl)
 | (apply GL_on; eq_refl; eq_refl)
 | (apply G_pv; eq_refl; first | exact trivial | omega)
 | (apply G_field; eq_refl)
 | (apply G_ld; eq_refl; (repeat first | exact In.here | apply In.there | apply In.skip); eq_refl)
 | (apply G_cmpT; eq_refl; eq_refl; omega)
 | (apply G_neg; eq_refl; omega; omega)
 | (apply G_box; eq_refl; eq_refl; intro _))
      exact ⟨[], (by repeat first | exact Wk.nil | exact Wk.refl | (apply Wk.cons; (focus ((repeat first | exact Rem.here | apply Rem.there | apply Rem.skip); done))) | apply Wk.nilv | apply Wk.last | apply Wk.drop), rfl, rfl⟩
    · have e : atM c.max l t = -1 := by unfold atM; rw [if_pos hb, if_neg hv]
      rw [e]
      repeat' (first
 | (apply GC_seqK; intro K hK)
 | (apply hK; clear hK K)
 | (apply GC_region)
 | (apply GL_nil)
 | (apply thenG_normal)
 | (apply thenG_ret)
 | (apply GC_ret)
 | (apply GC_skip)
 | (apply GC_if_true; eq_refl)
 | (apply GC_if_false; eq_refl)
 | (apply retG1; eq_refl)
 | (apply GL_on; eq_refl; eq_refl)
 | (apply G_pv; eq_refl; first | exact trivial | omega)
 | (apply G_cmpT; eq_refl; eq_refl; omega)
 | (apply G_cmpF; eq_refl; eq_refl; omega)
 | (apply G_neg; eq_refl; omega; omega)
 | (apply G_box; eq_refl; eq_refl; intro _))
      exact ⟨[], (by repeat first | exact Wk.nil | exact Wk.refl | (apply Wk.cons; (focus ((repeat first | exact Rem.here | apply Rem.there | apply Rem.skip); done))) | apply Wk.nilv | apply Wk.last | apply Wk.drop), rfl, rfl⟩
  · by_cases hv : 0 < l / 2
    · have e : atM c.max l t = 1 + t * c.max + l / 2 := by unfold atM; rw [if_neg hb, if_pos hv]
      rw [e]
      repeat' (first
 | (apply GC_seqK; intro K hK)
 | (apply hK; clear hK K)
 | (apply GC_region)
 | (apply GL_nil)
 | (apply thenG_normal)
 | (apply GC_ret)
 | (apply GC_skip)
 | (apply GC_if_true; eq_refl)
 | (apply GC_if_false; eq_refl)
 | (apply retG1; eq_refl)
 | (apply GL_on; eq_refl; eq_refl)
 | (apply G_pv; eq_refl; first | exact trivial | omega)
 | (apply G_field; eq_refl)
 | (apply G_ld; eq_refl; (repeat first | exact In.here | apply In.there | apply In.skip); eq_refl)
 | (apply G_cmpT; eq_refl; eq_refl; omega)
 | (apply G_cmpF; eq_refl; eq_refl; omega)
 | (apply G_box; eq_refl; eq_refl; intro _))
      exact ⟨[], (by repeat first | exact Wk.nil | exact Wk.refl | (apply Wk.cons; (focus ((repeat first | exact Rem.here | apply Rem.there | apply Rem.skip); done))) | apply Wk.nilv | apply Wk.last | apply Wk.drop), rfl, rfl⟩
    · have e : atM c.max l t = 1 := by unfold atM; rw [if_neg hb, if_neg hv]
      rw [e]
      repeat' (first
 | (apply GC_seqK; intro K hK)
 | (apply hK; clear hK K)
 | (apply GC_region)
 | (apply GL_nil)
 | (apply thenG_normal)
 | (apply GC_ret)
 | (apply GC_skip)
 | (apply GC_if_false; eq_refl)
 | (apply retG1; eq_refl)
 | (apply GL_on; eq_refl; eq_refl)
 | (apply G_pv; eq_refl; first | exact trivial | omega)
 | (apply G_cmpF; eq_refl; eq_refl; omega)
 | (apply G_box; eq_refl; eq_refl; intro _))
      exact ⟨[], (by repeat first | exact Wk.nil | exact Wk.refl | (apply Wk.cons; (focus ((repeat first | exact Rem.here | apply Rem.there | apply Rem.skip); done))) | apply Wk.nilv | apply Wk.last | apply Wk.drop), rfl, rfl⟩
theorem lit16_cv {w : World} {c : Circ} {h : Hd} {l t : Int} (h0 : 0 ≤ l) (h1 : l ≤ 40000) (h2 : 0 ≤ t * c.max) (h3 : t * c.max ≤ 10000000) : CVN Try.prog 52 [.agg (ccells c h).toArray, nu l, nu t] w fun v N => N = [] ∧ v = nu (atM c.max l t) := by
  refine CVN.enter 26 [6] Try.func52 rfl rfl rfl (by decide) rfl ?_
  by_cases hb : l % 2 = 1
  · by_cases hv : 0 < l / 2
    · have e : atM c.max l t = -(2 + t * c.max + l / 2 - 1) := by unfold atM; rw [if_pos hb, if_pos hv]; omega
      rw [e]
      repeat' (first
 | (apply GC_seqK; intro K hK)
 | (apply hK; clear hK K)
 | (apply GC_region)
 | (apply GL_nil)
 | (apply thenG_normal)
 | (apply thenG_ret)
 | (apply GC_ret)
 | (apply GC_if_true; eq_refl)
 | (apply retG1; eq_refl)
 | (apply GL_on; eq_refl; eq_refl)
 | (apply G_pv; eq_refl; first | exact trivial | omega)
 | (apply G_field; eq_refl)
 | (apply G_ld; eq_refl; (repeat first | exact In.here | apply In.there | apply In.skip); eq_refl)
 | (apply G_cmpT; eq_refl; eq_refl; omega)
 | (apply G_neg; eq_refl; omega; omega)
 | (apply G_box; eq_refl; eq_refl; intro _))
      exact ⟨[], (by repeat first | exact Wk.nil | exact Wk.refl | (apply Wk.cons; (focus ((repeat first | exact Rem.here | apply Rem.there | apply Rem.skip); done))) | apply Wk.nilv | apply Wk.last | apply Wk.drop), rfl, rfl⟩
    · have e : atM c.max l t = -1 := by unfold atM; rw [if_pos hb, if_neg hv]
      rw [e]
      repeat' (first
 | (apply GC_seqK; intro K hK)
 | (apply hK; clear hK K)
 | (apply GC_region)
 | (apply GL_nil)
 | (apply thenG_normal)
 | (apply thenG_ret)
 | (apply GC_ret)
 | (apply GC_skip)
 | (apply GC_if_true; eq_refl)
 | (apply GC_if_false; eq_refl)
 | (apply retG1; eq_refl)
 | (apply GL_on; eq_refl; eq_refl)
 | (apply G_pv; eq_refl; first | exact trivial | omega)
 | (apply G_cmpT; eq_refl; eq_refl; omega)
 | (apply G_cmpF; eq_refl; eq_refl; omega)
 | (apply G_neg; eq_refl; omega; omega)
 | (apply G_box; eq_refl; eq_refl; intro _))
      exact ⟨[], (by repeat first | exact Wk.nil | exact Wk.refl | (apply Wk.cons; (focus ((repeat first | exact Rem.here | apply Rem.there | apply Rem.skip); done))) | apply Wk.nilv | apply Wk.last | apply Wk.drop), rfl, rfl⟩
  · by_cases hv : 0 < l / 2
    · have e : atM c.max l t = 2 + t * c.max + l / 2 - 1 := by unfold atM; rw [if_neg hb, if_pos hv]; omega
      rw [e]
      repeat' (first
 | (apply GC_seqK; intro K hK)
 | (apply hK; clear hK K)
 | (apply GC_region)
 | (apply GL_nil)
 | (apply thenG_normal)
 | (apply GC_ret)
 | (apply GC_skip)
 | (apply GC_if_true; eq_refl)
 | (apply GC_if_false; eq_refl)
 | (apply retG1; eq_refl)
 | (apply GL_on; eq_refl; eq_refl)
 | (apply G_pv; eq_refl; first | exact trivial | omega)
 | (apply G_field; eq_refl)
 | (apply G_ld; eq_refl; (repeat first | exact In.here | apply In.there | apply In.skip); eq_refl)
 | (apply G_cmpT; eq_refl; eq_refl; omega)
 | (apply G_cmpF; eq_refl; eq_refl; omega)
 | (apply G_box; eq_refl; eq_refl; intro _))
      exact ⟨[], (by repeat first | exact Wk.nil | exact Wk.refl | (apply Wk.cons; (focus ((repeat first | exact Rem.here | apply Rem.there | apply Rem.skip); done))) | apply Wk.nilv | apply Wk.last | apply Wk.drop), rfl, rfl⟩
    · have e : atM c.max l t = 1 := by unfold atM; rw [if_neg hb, if_neg hv]
      rw [e]
      repeat' (first
 | (apply GC_seqK; intro K hK)
 | (apply hK; clear hK K)
 | (apply GC_region)
 | (apply GL_nil)
 | (apply thenG_normal)
 | (apply GC_ret)
 | (apply GC_skip)
 | (apply GC_if_false; eq_refl)
 | (apply retG1; eq_refl)
 | (apply GL_on; eq_refl; eq_refl)
 | (apply G_pv; eq_refl; first | exact trivial | omega)
 | (apply G_cmpF; eq_refl; eq_refl; omega)
 | (apply G_box; eq_refl; eq_refl; intro _))
      exact ⟨[], (by repeat first | exact Wk.nil | exact Wk.refl | (apply Wk.cons; (focus ((repeat first | exact Rem.here | apply Rem.there | apply Rem.skip); done))) | apply Wk.nilv | apply Wk.last | apply Wk.drop), rfl, rfl⟩
theorem gatesS_cv {w : World} {c : Circ} {h js : Hd} {t : Int} (R : Right c) (H : CirAt w c h js) (t0 : 0 ≤ t) (t1 : t ≤ 600) : CVN Try.prog 62 [.agg (ccells c h).toArray, nu t] w (CliR (gatesS c t)) := by
  have hAnd := H.ands
  have m0 := R.m0
  have m1 := R.m1
  have n3 := R.nAnd
  obtain ⟨z0, z1⟩ := mul_le t0 t1 m0 m1
  have hat : ∀ Γ l, inR c l → ∀ w', Mem w' Γ → CVN Try.prog 43 [.agg (ccells c h).toArray, nu l, nu t] w' fun v N => N = [] ∧ v = nu (atM c.max l t) := fun Γ l hl w' M => at_cv hl.1 (by unfold inR at hl; omega) z0 z1
  refine CVN.enter 53 [4] Try.func62 rfl rfl rfl (by decide) rfl ?_
  repeat' (first
 | (apply GC_seqK; intro K hK)
 | (apply hK; clear hK K)
 | (apply GC_block)
 | (apply GC_region)
 | (apply GL_nil)
 | (apply thenG_normal)
 | (apply GL_on; eq_refl; eq_refl)
 | (apply G_pv; eq_refl; first | exact trivial | omega)
 | (apply G_field; eq_refl)
 | (apply G_ld; eq_refl; (repeat first | exact In.here | apply In.there | apply In.skip); eq_refl)
 | (apply G_len; eq_refl)
 | (apply G_box; eq_refl; eq_refl; intro _))
  rename_i b2
  refine GC_loopK [1, 2, 13, 14] (fun s : Nat × List (Hdl × List Int) × Option Addr × Nat => [(5, .slice s.2.2.1 s.2.1.length s.2.2.2), (15, nu s.1)]) (fun s => [.any (bun (fam rowJ s.2.1)), .vec encS 1 67 s.2.2.1 s.2.2.2 s.2.1, .box b2 69 (ccells c h), .old w none_])
    (fun s => s.1 ≤ c.ands.length ∧ s.2.1.map (·.2) = (c.ands.take s.1).flatMap (gateS c.max t)) (fun s => c.ands.length - s.1) (0, [], none, 0) (by repeat first | exact Pick.nil | (apply Pick.cons; eq_refl)) (by repeat first | exact trivial | refine ⟨rfl, ?_⟩) (rows_nil (Wk.nilv (by repeat first | exact Wk.nil | exact Wk.refl | (apply Wk.cons; (focus ((repeat first | exact Rem.here | apply Rem.there | apply Rem.skip); done))) | apply Wk.nilv | apply Wk.last | apply Wk.drop))) ⟨Nat.zero_le _, rfl⟩ ?_
  rintro ⟨i, ps, A, kA⟩ ⟨hi, hps⟩
  dsimp only at hi hps ⊢
  have hpl : ps.length = 3 * i := by
    have := congrArg List.length hps
    rw [List.length_map, flat_eq (fun _ => gateS_len)] at this
    simp only [List.length_take] at this
    omega
  rcases Nat.lt_or_ge i c.ands.length with hlt | hge
  · obtain ⟨g1, g2, g3⟩ := R.gate (gt_mem (l := c.ands) (i := (i : Int)) (by omega) (by omega))
    have g0 : inR c (gt c.ands (i : Int)).1 := g1.in
    have a1 := atM_le (mx := c.max) (t := t) g0.1 (by unfold inR at g0; omega) z0 z1
    have a2 := atM_le (mx := c.max) (t := t) g2.1 (by unfold inR at g2; omega) z0 z1
    have a3 := atM_le (mx := c.max) (t := t) g3.1 (by unfold inR at g3; omega) z0 z1
    have hsn := flat_snoc (f := gateS c.max t) hlt
    repeat' (first
 | (apply G_call; eq_refl; eq_refl; (apply hat; first | exact g0 | exact g2 | exact g3); rintro _ _ ⟨rfl, rfl⟩)
 | (apply G_app (enc := encS); (first | exact wr_p | kernel_rfl); eq_refl; eq_refl; (intro A c; (repeat first | exact Upd.here | apply Upd.there | apply Upd.skip)); infer_instance; (repeat first | exact In.here | apply In.there | apply In.skip); (exact (Dec.c1 (a := ((_, _), [-atM c.max (gt c.ands (i : Int)).1 t, atM c.max (gt c.ands (i : Int)).2.1 t])) rfl (Dec.c1 (a := ((_, _), [-atM c.max (gt c.ands (i : Int)).1 t, atM c.max (gt c.ands (i : Int)).2.2 t])) rfl (Dec.c1 (a := ((_, _), [atM c.max (gt c.ands (i : Int)).1 t, -atM c.max (gt c.ands (i : Int)).2.1 t, -atM c.max (gt c.ands (i : Int)).2.2 t])) rfl Dec.nil)))); eq_refl; eq_refl; eq_refl; (simp only [List.length_cons, List.length_nil]; omega); decide; intro A9 k9)
 | (apply GC_seqK; intro K hK)
 | (apply hK; clear hK K)
 | (apply GC_block)
 | (apply GC_region)
 | (apply GL_nil)
 | (apply thenG_normal)
 | (apply blockG_normal)
 | (apply GC_skip)
 | (apply GC_if_true; eq_refl)
 | (apply GL_on; eq_refl; eq_refl)
 | (refine GC_draws (id := 5) [.q 0, .q 1, .q 2, .q 3, .q 5, .q 6, .q 7, .q 8, .q 10, .q 11, .q 12, .q 13, .c 4, .c 9, .c 14, .q 15, .q 16, .q 17] mixed (by kernel_rfl) (by kernel_rfl) ?_)
 | (apply GS_nil)
 | (apply GS_qon; eq_refl; eq_refl; eq_refl; eq_refl)
 | (apply GS_con; eq_refl; eq_refl; eq_refl; eq_refl)
 | (apply G_pv; eq_refl; first | exact trivial | omega)
 | (apply G_field; eq_refl)
 | (apply G_ld; eq_refl; (repeat first | exact In.here | apply In.there | apply In.skip); eq_refl)
 | (apply G_ldW; eq_refl; (repeat first | exact In.here | apply In.there | apply In.skip); eq_refl)
 | (apply G_rdW; eq_refl; (first | (apply Rd.own; (repeat first | exact In.here | apply In.there | apply In.skip); infer_instance) | (apply Rd.old; (repeat first | exact In.here | apply In.there | apply In.skip); assumption) | (apply Rd.oldR; (repeat first | exact In.here | apply In.there | apply In.skip); assumption) | exact Rd.nil | assumption); infer_instance; (case ih => infer_instance); omega; omega)
 | (apply G_cmpT; eq_refl; eq_refl; omega)
 | (apply G_ix; eq_refl; eq_refl; (first | (apply Rd.own; (repeat first | exact In.here | apply In.there | apply In.skip); infer_instance) | (apply Rd.old; (repeat first | exact In.here | apply In.there | apply In.skip); assumption) | (apply Rd.oldR; (repeat first | exact In.here | apply In.there | apply In.skip); assumption) | exact Rd.nil | assumption); (first | eq_refl | omega); omega; omega)
 | (apply G_neg; eq_refl; omega; omega)
 | (apply G_alloc; eq_refl; intro _)
 | (apply G_stW; (first | exact wr_p | kernel_rfl); eq_refl; eq_refl; eq_refl; eq_refl; (repeat first | exact Upd.here | apply Upd.there | apply Upd.skip); eq_refl)
 | (apply G_new (fun b => .slice (some ⟨b, 0, none⟩) 2 2); eq_refl; (intro _; apply buildS67_2 <;> eq_refl); intro _)
 | (apply G_new (fun b => .slice (some ⟨b, 0, none⟩) 3 3); eq_refl; (intro _; apply buildS67_3 <;> eq_refl); intro _)
 | (apply G_new (fun b => .slice (some ⟨b, 0, none⟩) 3 3); eq_refl; (intro _; apply buildS32_3 <;> eq_refl); intro _))
    rename_i b7 c1 c2 c3 c4
    refine ⟨(i + 1, ps ++ [((some ⟨c1, 0, none⟩, 2), [-atM c.max (gt c.ands (i : Int)).1 t, atM c.max (gt c.ands (i : Int)).2.1 t]), ((some ⟨c2, 0, none⟩, 2), [-atM c.max (gt c.ands (i : Int)).1 t, atM c.max (gt c.ands (i : Int)).2.2 t]), ((some ⟨c3, 0, none⟩, 3), [atM c.max (gt c.ands (i : Int)).1 t, -atM c.max (gt c.ands (i : Int)).2.1 t, -atM c.max (gt c.ands (i : Int)).2.2 t])], A9, k9), (by repeat first | exact trivial | refine ⟨rfl, ?_⟩), (by dsimp only; exact Wk.add3 (by repeat first | exact Rem.here | apply Rem.there | apply Rem.skip) (by repeat first | exact Rem.here | apply Rem.there | apply Rem.skip) (by repeat first | exact Rem.here | apply Rem.there | apply Rem.skip) (by repeat first | exact Rem.here | apply Rem.there | apply Rem.skip) rfl rfl rfl (Nat.le_of_ble_eq_true rfl) (Nat.le_of_ble_eq_true rfl) (Nat.le_of_ble_eq_true rfl) (by repeat first | exact Wk.nil | exact Wk.refl | (apply Wk.cons; (focus ((repeat first | exact Rem.here | apply Rem.there | apply Rem.skip); done))) | apply Wk.nilv | apply Wk.last | apply Wk.drop)), ⟨hlt, ?_⟩, by simp only; omega⟩
    simp only
    rw [hsn, List.map_append, hps]
    rfl
  · obtain rfl : i = c.ands.length := by omega
    rw [List.take_length] at hps
    repeat' (first
 | (apply GC_seqK; intro K hK)
 | (apply hK; clear hK K)
 | (clear hK K; apply hK; clear hK K)
 | (apply GC_region)
 | (apply GL_nil)
 | (apply thenG_normal)
 | (apply thenG_exit)
 | (apply blockG_hit)
 | (apply GC_ret)
 | (apply GC_exit)
 | (apply GC_if_false; eq_refl)
 | (apply retG1; eq_refl)
 | (apply GL_on; eq_refl; eq_refl)
 | (apply G_pv; eq_refl; first | exact trivial | omega)
 | (apply G_cmpF; eq_refl; eq_refl; omega))
    exact ⟨[.vec encS 1 67 A kA ps, .any (bun (fam rowJ ps))], (by repeat first | exact Wk.nil | exact Wk.refl | (apply Wk.cons; (focus ((repeat first | exact Rem.here | apply Rem.there | apply Rem.skip); done))) | apply Wk.nilv | apply Wk.last | apply Wk.drop), ps, A, kA, rfl, hps, rfl⟩
theorem consS_cv {w : World} {c : Circ} {h js : Hd} {t : Int} (R : Right c) (H : CirAt w c h js) (t0 : 0 ≤ t) (t1 : t ≤ 600) : CVN Try.prog 63 [.agg (ccells c h).toArray, nu t] w (CliR (consS c t)) := by
  have hCon := H.constraints
  have m0 := R.m0
  have m1 := R.m1
  have n3 := R.nCon
  obtain ⟨z0, z1⟩ := mul_le t0 t1 m0 m1
  have hat : ∀ Γ l, inR c l → ∀ w', Mem w' Γ → CVN Try.prog 43 [.agg (ccells c h).toArray, nu l, nu t] w' fun v N => N = [] ∧ v = nu (atM c.max l t) := fun Γ l hl w' M => at_cv hl.1 (by unfold inR at hl; omega) z0 z1
  refine CVN.enter 26 [4] Try.func63 rfl rfl rfl (by decide) rfl ?_
  repeat' (first
 | (apply GC_seqK; intro K hK)
 | (apply hK; clear hK K)
 | (apply GC_block)
 | (apply GC_region)
 | (apply GL_nil)
 | (apply thenG_normal)
 | (apply GL_on; eq_refl; eq_refl)
 | (apply G_pv; eq_refl; first | exact trivial | omega)
 | (apply G_field; eq_refl)
 | (apply G_ld; eq_refl; (repeat first | exact In.here | apply In.there | apply In.skip); eq_refl)
 | (apply G_len; eq_refl)
 | (apply G_box; eq_refl; eq_refl; intro _))
  rename_i b2
  refine GC_loopK [1, 2, 10, 11] (fun s : Nat × List (Hdl × List Int) × Option Addr × Nat => [(5, .slice s.2.2.1 s.2.1.length s.2.2.2), (12, nu s.1)]) (fun s => [.any (bun (fam rowJ s.2.1)), .vec encS 1 67 s.2.2.1 s.2.2.2 s.2.1, .box b2 69 (ccells c h), .old w none_])
    (fun s => s.1 ≤ c.constraints.length ∧ s.2.1.map (·.2) = (c.constraints.take s.1).map fun l => [atM c.max l t]) (fun s => c.constraints.length - s.1) (0, [], none, 0) (by repeat first | exact Pick.nil | (apply Pick.cons; eq_refl)) (by repeat first | exact trivial | refine ⟨rfl, ?_⟩) (rows_nil (Wk.nilv (by repeat first | exact Wk.nil | exact Wk.refl | (apply Wk.cons; (focus ((repeat first | exact Rem.here | apply Rem.there | apply Rem.skip); done))) | apply Wk.nilv | apply Wk.last | apply Wk.drop))) ⟨Nat.zero_le _, rfl⟩ ?_
  rintro ⟨i, ps, A, kA⟩ ⟨hi, hps⟩
  dsimp only at hi hps ⊢
  have hpl : ps.length = i := by
    have := congrArg List.length hps
    simp only [List.length_map, List.length_take] at this
    omega
  rcases Nat.lt_or_ge i c.constraints.length with hlt | hge
  · have g0 := R.con (gt_mem (l := c.constraints) (i := (i : Int)) (by omega) (by omega))
    have a1 := atM_le (mx := c.max) (t := t) g0.1 (by unfold inR at g0; omega) z0 z1
    repeat' (first
 | (apply G_call; eq_refl; eq_refl; (apply hat; exact g0); rintro _ _ ⟨rfl, rfl⟩)
 | (apply G_app (enc := encS); (first | exact wr_p | kernel_rfl); eq_refl; eq_refl; (intro A c; (repeat first | exact Upd.here | apply Upd.there | apply Upd.skip)); infer_instance; (repeat first | exact In.here | apply In.there | apply In.skip); (exact (Dec.c1 (a := ((_, _), [atM c.max (gt c.constraints (i : Int)) t])) rfl Dec.nil)); eq_refl; eq_refl; eq_refl; (simp only [List.length_cons, List.length_nil]; omega); decide; intro A9 k9)
 | (apply GC_seqK; intro K hK)
 | (apply hK; clear hK K)
 | (apply GC_block)
 | (apply GC_region)
 | (apply GL_nil)
 | (apply thenG_normal)
 | (apply blockG_normal)
 | (apply GC_skip)
 | (apply GC_if_true; eq_refl)
 | (apply GL_on; eq_refl; eq_refl)
 | (apply G_pv; eq_refl; first | exact trivial | omega)
 | (apply G_ldW; eq_refl; (repeat first | exact In.here | apply In.there | apply In.skip); eq_refl)
 | (apply G_rd; eq_refl; (first | (apply Rd.own; (repeat first | exact In.here | apply In.there | apply In.skip); infer_instance) | (apply Rd.old; (repeat first | exact In.here | apply In.there | apply In.skip); assumption) | (apply Rd.oldR; (repeat first | exact In.here | apply In.there | apply In.skip); assumption) | exact Rd.nil | assumption); (case ih => infer_instance); omega; omega; eq_refl)
 | (apply G_cmpT; eq_refl; eq_refl; omega)
 | (apply G_ix; eq_refl; eq_refl; (first | (apply Rd.own; (repeat first | exact In.here | apply In.there | apply In.skip); infer_instance) | (apply Rd.old; (repeat first | exact In.here | apply In.there | apply In.skip); assumption) | (apply Rd.oldR; (repeat first | exact In.here | apply In.there | apply In.skip); assumption) | exact Rd.nil | assumption); (first | eq_refl | omega); omega; omega)
 | (apply G_new (fun b => .slice (some ⟨b, 0, none⟩) 1 1); eq_refl; (intro _; apply buildS67_1 <;> eq_refl); intro _)
 | (apply G_new (fun b => .slice (some ⟨b, 0, none⟩) 1 1); eq_refl; (intro _; apply buildS32_1 <;> eq_refl); intro _))
    rename_i c1 c4
    refine ⟨(i + 1, ps ++ [((some ⟨c1, 0, none⟩, 1), [atM c.max (gt c.constraints (i : Int)) t])], A9, k9), (by repeat first | exact trivial | refine ⟨rfl, ?_⟩), (by dsimp only; exact Wk.add1 (by repeat first | exact Rem.here | apply Rem.there | apply Rem.skip) (by repeat first | exact Rem.here | apply Rem.there | apply Rem.skip) rfl (Nat.le_of_ble_eq_true rfl) (by repeat first | exact Wk.nil | exact Wk.refl | (apply Wk.cons; (focus ((repeat first | exact Rem.here | apply Rem.there | apply Rem.skip); done))) | apply Wk.nilv | apply Wk.last | apply Wk.drop)), ⟨hlt, ?_⟩, by simp only; omega⟩
    simp only
    rw [List.take_succ_eq_append_getElem hlt, List.map_append, List.map_append, hps, ← gt_nat hlt]
    rfl
  · obtain rfl : i = c.constraints.length := by omega
    rw [List.take_length] at hps
    repeat' (first
 | (apply GC_seqK; intro K hK)
 | (apply hK; clear hK K)
 | (clear hK K; apply hK; clear hK K)
 | (apply GC_region)
 | (apply GL_nil)
 | (apply thenG_normal)
 | (apply thenG_exit)
 | (apply blockG_hit)
 | (apply GC_ret)
 | (apply GC_exit)
 | (apply GC_if_false; eq_refl)
 | (apply retG1; eq_refl)
 | (apply GL_on; eq_refl; eq_refl)
 | (apply G_pv; eq_refl; first | exact trivial | omega)
 | (apply G_cmpF; eq_refl; eq_refl; omega))
    exact ⟨[.vec encS 1 67 A kA ps, .any (bun (fam rowJ ps))], (by repeat first | exact Wk.nil | exact Wk.refl | (apply Wk.cons; (focus ((repeat first | exact Rem.here | apply Rem.there | apply Rem.skip); done))) | apply Wk.nilv | apply Wk.last | apply Wk.drop), ps, A, kA, rfl, hps, rfl⟩
theorem nextS_cv {w : World} {c : Circ} {h js : Hd} {t : Int} (R : Right c) (H : CirAt w c h js) (t0 : 0 ≤ t) (t1 : t ≤ 599) : CVN Try.prog 35 [.agg (ccells c h).toArray, nu t] w (CliR (nextS c t)) := by
  have hLat := H.latches
  have m0 := R.m0
  have m1 := R.m1
  have n3 := R.nLat
  obtain ⟨z0, z1⟩ := mul_le t0 (by omega : t ≤ 600) m0 m1
  obtain ⟨y0, y1⟩ := mul_le (by omega : 0 ≤ t + 1) (by omega : t + 1 ≤ 600) m0 m1
  have hat : ∀ Γ l, inR c l → ∀ w', Mem w' Γ → CVN Try.prog 43 [.agg (ccells c h).toArray, nu l, nu t] w' fun v N => N = [] ∧ v = nu (atM c.max l t) := fun Γ l hl w' M => at_cv hl.1 (by unfold inR at hl; omega) z0 z1
  have hat2 : ∀ Γ l, inR c l → ∀ w', Mem w' Γ → CVN Try.prog 43 [.agg (ccells c h).toArray, nu l, nu (t + 1)] w' fun v N => N = [] ∧ v = nu (atM c.max l (t + 1)) := fun Γ l hl w' M => at_cv hl.1 (by unfold inR at hl; omega) y0 y1
  refine CVN.enter 42 [4] Try.func35 rfl rfl rfl (by decide) rfl ?_
  repeat' (first
 | (apply GC_seqK; intro K hK)
 | (apply hK; clear hK K)
 | (apply GC_block)
 | (apply GC_region)
 | (apply GL_nil)
 | (apply thenG_normal)
 | (apply GL_on; eq_refl; eq_refl)
 | (apply G_pv; eq_refl; first | exact trivial | omega)
 | (apply G_field; eq_refl)
 | (apply G_ld; eq_refl; (repeat first | exact In.here | apply In.there | apply In.skip); eq_refl)
 | (apply G_len; eq_refl)
 | (apply G_box; eq_refl; eq_refl; intro _))
  rename_i b2
  refine GC_loopK [1, 2, 12, 13] (fun s : Nat × List (Hdl × List Int) × Option Addr × Nat => [(5, .slice s.2.2.1 s.2.1.length s.2.2.2), (14, nu s.1)]) (fun s => [.any (bun (fam rowJ s.2.1)), .vec encS 1 67 s.2.2.1 s.2.2.2 s.2.1, .box b2 69 (ccells c h), .old w none_])
    (fun s => s.1 ≤ c.latches.length ∧ s.2.1.map (·.2) = (c.latches.take s.1).flatMap (nxtS c.max t)) (fun s => c.latches.length - s.1) (0, [], none, 0) (by repeat first | exact Pick.nil | (apply Pick.cons; eq_refl)) (by repeat first | exact trivial | refine ⟨rfl, ?_⟩) (rows_nil (Wk.nilv (by repeat first | exact Wk.nil | exact Wk.refl | (apply Wk.cons; (focus ((repeat first | exact Rem.here | apply Rem.there | apply Rem.skip); done))) | apply Wk.nilv | apply Wk.last | apply Wk.drop))) ⟨Nat.zero_le _, rfl⟩ ?_
  rintro ⟨i, ps, A, kA⟩ ⟨hi, hps⟩
  dsimp only at hi hps ⊢
  have hpl : ps.length = 2 * i := by
    have := congrArg List.length hps
    rw [List.length_map, flat_eq (fun _ => nxtS_len)] at this
    simp only [List.length_take] at this
    omega
  rcases Nat.lt_or_ge i c.latches.length with hlt | hge
  · obtain ⟨g1, g2, _⟩ := R.lat (gt_mem (l := c.latches) (i := (i : Int)) (by omega) (by omega))
    have g0 : inR c (gt c.latches (i : Int)).1 := g1.in
    have a1 := atM_le (mx := c.max) (t := t + 1) g0.1 (by unfold inR at g0; omega) y0 y1
    have a2 := atM_le (mx := c.max) (t := t) g2.1 (by unfold inR at g2; omega) z0 z1
    have hsn := flat_snoc (f := nxtS c.max t) hlt
    repeat' (first
 | (apply G_call; eq_refl; eq_refl; (first | (apply hat; first | exact g0 | exact g2) | (apply hat2; first | exact g0 | exact g2)); rintro _ _ ⟨rfl, rfl⟩)
 | (apply G_app (enc := encS); (first | exact wr_p | kernel_rfl); eq_refl; eq_refl; (intro A c; (repeat first | exact Upd.here | apply Upd.there | apply Upd.skip)); infer_instance; (repeat first | exact In.here | apply In.there | apply In.skip); (exact (Dec.c1 (a := ((_, _), [-atM c.max (gt c.latches (i : Int)).1 (t + 1), atM c.max (gt c.latches (i : Int)).2.1 t])) rfl (Dec.c1 (a := ((_, _), [atM c.max (gt c.latches (i : Int)).1 (t + 1), -atM c.max (gt c.latches (i : Int)).2.1 t])) rfl Dec.nil))); eq_refl; eq_refl; eq_refl; (simp only [List.length_cons, List.length_nil]; omega); decide; intro A9 k9)
 | (apply GC_seqK; intro K hK)
 | (apply hK; clear hK K)
 | (apply GC_block)
 | (apply GC_region)
 | (apply GL_nil)
 | (apply thenG_normal)
 | (apply blockG_normal)
 | (apply GC_skip)
 | (apply GC_if_true; eq_refl)
 | (apply GL_on; eq_refl; eq_refl)
 | (refine GC_draws (id := 5) [.q 0, .q 1, .q 2, .q 3, .q 4, .q 6, .q 7, .q 8, .q 9, .c 5, .c 10, .q 11, .q 12] mixed (by kernel_rfl) (by kernel_rfl) ?_)
 | (apply GS_nil)
 | (apply GS_qon; eq_refl; eq_refl; eq_refl; eq_refl)
 | (apply GS_con; eq_refl; eq_refl; eq_refl; eq_refl)
 | (apply G_pv; eq_refl; first | exact trivial | omega)
 | (apply G_field; eq_refl)
 | (apply G_ld; eq_refl; (repeat first | exact In.here | apply In.there | apply In.skip); eq_refl)
 | (apply G_ldW; eq_refl; (repeat first | exact In.here | apply In.there | apply In.skip); eq_refl)
 | (apply G_rdW; eq_refl; (first | (apply Rd.own; (repeat first | exact In.here | apply In.there | apply In.skip); infer_instance) | (apply Rd.old; (repeat first | exact In.here | apply In.there | apply In.skip); assumption) | (apply Rd.oldR; (repeat first | exact In.here | apply In.there | apply In.skip); assumption) | exact Rd.nil | assumption); infer_instance; (case ih => infer_instance); omega; omega)
 | (apply G_cmpT; eq_refl; eq_refl; omega)
 | (apply G_ix; eq_refl; eq_refl; (first | (apply Rd.own; (repeat first | exact In.here | apply In.there | apply In.skip); infer_instance) | (apply Rd.old; (repeat first | exact In.here | apply In.there | apply In.skip); assumption) | (apply Rd.oldR; (repeat first | exact In.here | apply In.there | apply In.skip); assumption) | exact Rd.nil | assumption); (first | eq_refl | omega); omega; omega)
 | (apply G_neg; eq_refl; omega; omega)
 | (apply G_alloc; eq_refl; intro _)
 | (apply G_stW; (first | exact wr_p | kernel_rfl); eq_refl; eq_refl; eq_refl; eq_refl; (repeat first | exact Upd.here | apply Upd.there | apply Upd.skip); eq_refl)
 | (apply G_new (fun b => .slice (some ⟨b, 0, none⟩) 2 2); eq_refl; (intro _; apply buildS67_2 <;> eq_refl); intro _)
 | (apply G_new (fun b => .slice (some ⟨b, 0, none⟩) 2 2); eq_refl; (intro _; apply buildS32_2 <;> eq_refl); intro _))
    rename_i b7 c1 c2 c4
    refine ⟨(i + 1, ps ++ [((some ⟨c1, 0, none⟩, 2), [-atM c.max (gt c.latches (i : Int)).1 (t + 1), atM c.max (gt c.latches (i : Int)).2.1 t]), ((some ⟨c2, 0, none⟩, 2), [atM c.max (gt c.latches (i : Int)).1 (t + 1), -atM c.max (gt c.latches (i : Int)).2.1 t])], A9, k9), (by repeat first | exact trivial | refine ⟨rfl, ?_⟩), (by dsimp only; exact Wk.add2 (by repeat first | exact Rem.here | apply Rem.there | apply Rem.skip) (by repeat first | exact Rem.here | apply Rem.there | apply Rem.skip) (by repeat first | exact Rem.here | apply Rem.there | apply Rem.skip) rfl rfl (Nat.le_of_ble_eq_true rfl) (Nat.le_of_ble_eq_true rfl) (by repeat first | exact Wk.nil | exact Wk.refl | (apply Wk.cons; (focus ((repeat first | exact Rem.here | apply Rem.there | apply Rem.skip); done))) | apply Wk.nilv | apply Wk.last | apply Wk.drop)), ⟨hlt, ?_⟩, by simp only; omega⟩
    simp only
    rw [hsn, List.map_append, hps]
    rfl
  · obtain rfl : i = c.latches.length := by omega
    rw [List.take_length] at hps
    repeat' (first
 | (apply GC_seqK; intro K hK)
 | (apply hK; clear hK K)
 | (clear hK K; apply hK; clear hK K)
 | (apply GC_region)
 | (apply GL_nil)
 | (apply thenG_normal)
 | (apply thenG_exit)
 | (apply blockG_hit)
 | (apply GC_ret)
 | (apply GC_exit)
 | (apply GC_if_false; eq_refl)
 | (apply retG1; eq_refl)
 | (apply GL_on; eq_refl; eq_refl)
 | (apply G_pv; eq_refl; first | exact trivial | omega)
 | (apply G_cmpF; eq_refl; eq_refl; omega))
    exact ⟨[.vec encS 1 67 A kA ps, .any (bun (fam rowJ ps))], (by repeat first | exact Wk.nil | exact Wk.refl | (apply Wk.cons; (focus ((repeat first | exact Rem.here | apply Rem.there | apply Rem.skip); done))) | apply Wk.nilv | apply Wk.last | apply Wk.drop), ps, A, kA, rfl, hps, rfl⟩
theorem atM_or {mx l : Int} (h : l % 2 = 0) : atM mx (l + 1) 0 = -atM mx l 0 := by
  unfold atM
  rw [if_pos (by omega), if_neg (by omega : ¬ l % 2 = 1), show (l + 1) / 2 = l / 2 by omega]
theorem firstS_cv {w : World} {c : Circ} {h js : Hd} (R : Right c) (H : CirAt w c h js) : CVN Try.prog 33 [.agg (ccells c h).toArray] w (CliR (firstS c)) := by
  have hLat := H.latches
  have m0 := R.m0
  have m1 := R.m1
  have n3 := R.nLat
  have hat : ∀ Γ l, 0 ≤ l → l ≤ 40000 → ∀ w', Mem w' Γ → CVN Try.prog 43 [.agg (ccells c h).toArray, nu l, nu 0] w' fun v N => N = [] ∧ v = nu (atM c.max l 0) := fun Γ l h0 h1 w' M => at_cv h0 h1 (by omega) (by omega)
  refine CVN.enter 31 [2] Try.func33 rfl rfl rfl (by decide) rfl ?_
  repeat' (first
 | (apply GC_seqK; intro K hK)
 | (apply hK; clear hK K)
 | (apply GC_block)
 | (apply GC_region)
 | (apply GL_nil)
 | (apply thenG_normal)
 | (apply GL_on; eq_refl; eq_refl)
 | (apply G_pv; eq_refl; first | exact trivial | omega)
 | (apply G_field; eq_refl)
 | (apply G_ld; eq_refl; (repeat first | exact In.here | apply In.there | apply In.skip); eq_refl)
 | (apply G_len; eq_refl)
 | (apply G_box; eq_refl; eq_refl; intro _))
  rename_i b2
  refine GC_loopK [1, 8, 9] (fun s : Nat × List (Hdl × List Int) × Option Addr × Nat => [(3, .slice s.2.2.1 s.2.1.length s.2.2.2), (10, nu s.1)]) (fun s => [.any (bun (fam rowJ s.2.1)), .vec encS 1 67 s.2.2.1 s.2.2.2 s.2.1, .box b2 69 (ccells c h), .old w none_])
    (fun s => s.1 ≤ c.latches.length ∧ s.2.1.map (·.2) = (c.latches.take s.1).flatMap (rstS c.max)) (fun s => c.latches.length - s.1) (0, [], none, 0) (by repeat first | exact Pick.nil | (apply Pick.cons; eq_refl)) (by repeat first | exact trivial | refine ⟨rfl, ?_⟩) (rows_nil (Wk.nilv (by repeat first | exact Wk.nil | exact Wk.refl | (apply Wk.cons; (focus ((repeat first | exact Rem.here | apply Rem.there | apply Rem.skip); done))) | apply Wk.nilv | apply Wk.last | apply Wk.drop))) ⟨Nat.zero_le _, rfl⟩ ?_
  rintro ⟨i, ps, A, kA⟩ ⟨hi, hps⟩
  dsimp only at hi hps ⊢
  have hpl : ps.length ≤ i := by
    have h1 := congrArg List.length hps
    have h2 := flat_le (f := rstS c.max) (fun _ => rstS_len) (c.latches.take i)
    rw [List.length_map] at h1
    simp only [List.length_take] at h2
    omega
  rcases Nat.lt_or_ge i c.latches.length with hlt | hge
  · obtain ⟨g1, g2, g3⟩ := R.lat (gt_mem (l := c.latches) (i := (i : Int)) (by omega) (by omega))
    unfold defR at g1
    have hsn := flat_snoc (f := rstS c.max) hlt
    have hor : atM c.max ((gt c.latches (i : Int)).1 + 1) 0 = -atM c.max (gt c.latches (i : Int)).1 0 := atM_or g1.2.2
    by_cases hr : (gt c.latches (i : Int)).2.2 < 2
    · by_cases h0 : (gt c.latches (i : Int)).2.2 = 0
      · have er : rstS c.max (gt c.latches (i : Int)) = [[-atM c.max (gt c.latches (i : Int)).1 0]] := if_pos h0
        have ha : ∀ Γ, ∀ w', Mem w' Γ → CVN Try.prog 43 [.agg (ccells c h).toArray, nu ((gt c.latches (i : Int)).1 + (1 - (gt c.latches (i : Int)).2.2)), nu 0] w' fun v N => N = [] ∧ v = nu (-atM c.max (gt c.latches (i : Int)).1 0) := fun Γ w' M => by
          have := hat Γ ((gt c.latches (i : Int)).1 + (1 - (gt c.latches (i : Int)).2.2)) (by omega) (by omega) w' M
          rw [show (gt c.latches (i : Int)).1 + (1 - (gt c.latches (i : Int)).2.2) = (gt c.latches (i : Int)).1 + 1 by omega, hor] at this
          rw [show (gt c.latches (i : Int)).1 + (1 - (gt c.latches (i : Int)).2.2) = (gt c.latches (i : Int)).1 + 1 by omega]
          exact this
        repeat' (first
 | (apply G_call; eq_refl; eq_refl; (apply ha); rintro _ _ ⟨rfl, rfl⟩)
 | (apply GX_pure; apply p_or01; eq_refl; eq_refl; omega; omega; omega; omega; omega)
 | (apply G_app (enc := encS); (first | exact wr_p | kernel_rfl); eq_refl; eq_refl; (intro A c; (repeat first | exact Upd.here | apply Upd.there | apply Upd.skip)); infer_instance; (repeat first | exact In.here | apply In.there | apply In.skip); (exact (Dec.c1 (a := ((_, _), [-atM c.max (gt c.latches (i : Int)).1 0])) rfl Dec.nil)); eq_refl; eq_refl; eq_refl; (simp only [List.length_cons, List.length_nil]; omega); decide; intro A9 k9)
 | (apply GC_seqK; intro K hK)
 | (apply hK; clear hK K)
 | (apply GC_block)
 | (apply GC_region)
 | (apply GL_nil)
 | (apply thenG_normal)
 | (apply blockG_normal)
 | (apply GC_skip)
 | (apply GC_if_true; eq_refl)
 | (apply GL_on; eq_refl; eq_refl)
 | (apply G_pv; eq_refl; first | exact trivial | omega)
 | (apply G_field; eq_refl)
 | (apply G_ld; eq_refl; (repeat first | exact In.here | apply In.there | apply In.skip); eq_refl)
 | (apply G_ldW; eq_refl; (repeat first | exact In.here | apply In.there | apply In.skip); eq_refl)
 | (apply G_rdW; eq_refl; (first | (apply Rd.own; (repeat first | exact In.here | apply In.there | apply In.skip); infer_instance) | (apply Rd.old; (repeat first | exact In.here | apply In.there | apply In.skip); assumption) | (apply Rd.oldR; (repeat first | exact In.here | apply In.there | apply In.skip); assumption) | exact Rd.nil | assumption); infer_instance; (case ih => infer_instance); omega; omega)
 | (apply G_cmpT; eq_refl; eq_refl; omega)
 | (apply G_ix; eq_refl; eq_refl; (first | (apply Rd.own; (repeat first | exact In.here | apply In.there | apply In.skip); infer_instance) | (apply Rd.old; (repeat first | exact In.here | apply In.there | apply In.skip); assumption) | (apply Rd.oldR; (repeat first | exact In.here | apply In.there | apply In.skip); assumption) | exact Rd.nil | assumption); (first | eq_refl | omega); omega; omega)
 | (apply G_alloc; eq_refl; intro _)
 | (apply G_stW; (first | exact wr_p | kernel_rfl); eq_refl; eq_refl; eq_refl; eq_refl; (repeat first | exact Upd.here | apply Upd.there | apply Upd.skip); eq_refl)
 | (apply G_new (fun b => .slice (some ⟨b, 0, none⟩) 1 1); eq_refl; (intro _; apply buildS67_1 <;> eq_refl); intro _)
 | (apply G_new (fun b => .slice (some ⟨b, 0, none⟩) 1 1); eq_refl; (intro _; apply buildS32_1 <;> eq_refl); intro _))
        rename_i b5 c1 c4
        refine ⟨(i + 1, ps ++ [((some ⟨c1, 0, none⟩, 1), [-atM c.max (gt c.latches (i : Int)).1 0])], A9, k9), (by repeat first | exact trivial | refine ⟨rfl, ?_⟩), (by dsimp only; exact Wk.add1 (by repeat first | exact Rem.here | apply Rem.there | apply Rem.skip) (by repeat first | exact Rem.here | apply Rem.there | apply Rem.skip) rfl (Nat.le_of_ble_eq_true rfl) (by repeat first | exact Wk.nil | exact Wk.refl | (apply Wk.cons; (focus ((repeat first | exact Rem.here | apply Rem.there | apply Rem.skip); done))) | apply Wk.nilv | apply Wk.last | apply Wk.drop)), ⟨hlt, ?_⟩, by simp only; omega⟩
        simp only
        rw [hsn, List.map_append, hps, er]
        rfl
      · have h1 : (gt c.latches (i : Int)).2.2 = 1 := by omega
        have er : rstS c.max (gt c.latches (i : Int)) = [[atM c.max (gt c.latches (i : Int)).1 0]] := by
          unfold rstS
          rw [if_neg h0, if_pos h1]
        have ha : ∀ Γ, ∀ w', Mem w' Γ → CVN Try.prog 43 [.agg (ccells c h).toArray, nu ((gt c.latches (i : Int)).1 + (1 - (gt c.latches (i : Int)).2.2)), nu 0] w' fun v N => N = [] ∧ v = nu (atM c.max (gt c.latches (i : Int)).1 0) := fun Γ w' M => by
          have := hat Γ ((gt c.latches (i : Int)).1 + (1 - (gt c.latches (i : Int)).2.2)) (by omega) (by omega) w' M
          rw [show (gt c.latches (i : Int)).1 + (1 - (gt c.latches (i : Int)).2.2) = (gt c.latches (i : Int)).1 by omega] at this
          rw [show (gt c.latches (i : Int)).1 + (1 - (gt c.latches (i : Int)).2.2) = (gt c.latches (i : Int)).1 by omega]
          exact this
        repeat' (first
 | (apply G_call; eq_refl; eq_refl; (apply ha); rintro _ _ ⟨rfl, rfl⟩)
 | (apply GX_pure; apply p_or01; eq_refl; eq_refl; omega; omega; omega; omega; omega)
 | (apply G_app (enc := encS); (first | exact wr_p | kernel_rfl); eq_refl; eq_refl; (intro A c; (repeat first | exact Upd.here | apply Upd.there | apply Upd.skip)); infer_instance; (repeat first | exact In.here | apply In.there | apply In.skip); (exact (Dec.c1 (a := ((_, _), [atM c.max (gt c.latches (i : Int)).1 0])) rfl Dec.nil)); eq_refl; eq_refl; eq_refl; (simp only [List.length_cons, List.length_nil]; omega); decide; intro A9 k9)
 | (apply GC_seqK; intro K hK)
 | (apply hK; clear hK K)
 | (apply GC_block)
 | (apply GC_region)
 | (apply GL_nil)
 | (apply thenG_normal)
 | (apply blockG_normal)
 | (apply GC_skip)
 | (apply GC_if_true; eq_refl)
 | (apply GL_on; eq_refl; eq_refl)
 | (apply G_pv; eq_refl; first | exact trivial | omega)
 | (apply G_field; eq_refl)
 | (apply G_ld; eq_refl; (repeat first | exact In.here | apply In.there | apply In.skip); eq_refl)
 | (apply G_ldW; eq_refl; (repeat first | exact In.here | apply In.there | apply In.skip); eq_refl)
 | (apply G_rdW; eq_refl; (first | (apply Rd.own; (repeat first | exact In.here | apply In.there | apply In.skip); infer_instance) | (apply Rd.old; (repeat first | exact In.here | apply In.there | apply In.skip); assumption) | (apply Rd.oldR; (repeat first | exact In.here | apply In.there | apply In.skip); assumption) | exact Rd.nil | assumption); infer_instance; (case ih => infer_instance); omega; omega)
 | (apply G_cmpT; eq_refl; eq_refl; omega)
 | (apply G_ix; eq_refl; eq_refl; (first | (apply Rd.own; (repeat first | exact In.here | apply In.there | apply In.skip); infer_instance) | (apply Rd.old; (repeat first | exact In.here | apply In.there | apply In.skip); assumption) | (apply Rd.oldR; (repeat first | exact In.here | apply In.there | apply In.skip); assumption) | exact Rd.nil | assumption); (first | eq_refl | omega); omega; omega)
 | (apply G_alloc; eq_refl; intro _)
 | (apply G_stW; (first | exact wr_p | kernel_rfl); eq_refl; eq_refl; eq_refl; eq_refl; (repeat first | exact Upd.here | apply Upd.there | apply Upd.skip); eq_refl)
 | (apply G_new (fun b => .slice (some ⟨b, 0, none⟩) 1 1); eq_refl; (intro _; apply buildS67_1 <;> eq_refl); intro _)
 | (apply G_new (fun b => .slice (some ⟨b, 0, none⟩) 1 1); eq_refl; (intro _; apply buildS32_1 <;> eq_refl); intro _))
        rename_i b5 c1 c4
        refine ⟨(i + 1, ps ++ [((some ⟨c1, 0, none⟩, 1), [atM c.max (gt c.latches (i : Int)).1 0])], A9, k9), (by repeat first | exact trivial | refine ⟨rfl, ?_⟩), (by dsimp only; exact Wk.add1 (by repeat first | exact Rem.here | apply Rem.there | apply Rem.skip) (by repeat first | exact Rem.here | apply Rem.there | apply Rem.skip) rfl (Nat.le_of_ble_eq_true rfl) (by repeat first | exact Wk.nil | exact Wk.refl | (apply Wk.cons; (focus ((repeat first | exact Rem.here | apply Rem.there | apply Rem.skip); done))) | apply Wk.nilv | apply Wk.last | apply Wk.drop)), ⟨hlt, ?_⟩, by simp only; omega⟩
        simp only
        rw [hsn, List.map_append, hps, er]
        rfl
    · have er : rstS c.max (gt c.latches (i : Int)) = [] := by
        unfold rstS
        rw [if_neg (by omega), if_neg (by omega)]
      repeat' (first
 | (apply GC_seqK; intro K hK)
 | (apply hK; clear hK K)
 | (apply GC_block)
 | (apply GC_region)
 | (apply GL_nil)
 | (apply thenG_normal)
 | (apply blockG_normal)
 | (apply GC_skip)
 | (apply GC_if_true; eq_refl)
 | (apply GC_if_false; eq_refl)
 | (apply GL_on; eq_refl; eq_refl)
 | (apply G_pv; eq_refl; first | exact trivial | omega)
 | (apply G_field; eq_refl)
 | (apply G_ld; eq_refl; (repeat first | exact In.here | apply In.there | apply In.skip); eq_refl)
 | (apply G_rdW; eq_refl; (first | (apply Rd.own; (repeat first | exact In.here | apply In.there | apply In.skip); infer_instance) | (apply Rd.old; (repeat first | exact In.here | apply In.there | apply In.skip); assumption) | (apply Rd.oldR; (repeat first | exact In.here | apply In.there | apply In.skip); assumption) | exact Rd.nil | assumption); infer_instance; (case ih => infer_instance); omega; omega)
 | (apply G_cmpT; eq_refl; eq_refl; omega)
 | (apply G_cmpF; eq_refl; eq_refl; omega)
 | (apply G_ix; eq_refl; eq_refl; (first | (apply Rd.own; (repeat first | exact In.here | apply In.there | apply In.skip); infer_instance) | (apply Rd.old; (repeat first | exact In.here | apply In.there | apply In.skip); assumption) | (apply Rd.oldR; (repeat first | exact In.here | apply In.there | apply In.skip); assumption) | exact Rd.nil | assumption); (first | eq_refl | omega); omega; omega)
 | (apply G_alloc; eq_refl; intro _)
 | (apply G_stW; (first | exact wr_p | kernel_rfl); eq_refl; eq_refl; eq_refl; eq_refl; (repeat first | exact Upd.here | apply Upd.there | apply Upd.skip); eq_refl))
      refine ⟨(i + 1, ps, A, kA), (by repeat first | exact trivial | refine ⟨rfl, ?_⟩), (by repeat first | exact Wk.nil | exact Wk.refl | (apply Wk.cons; (focus ((repeat first | exact Rem.here | apply Rem.there | apply Rem.skip); done))) | apply Wk.nilv | apply Wk.last | apply Wk.drop), ⟨hlt, ?_⟩, by simp only; omega⟩
      simp only
      rw [hsn, hps, er, List.append_nil]
  · obtain rfl : i = c.latches.length := by omega
    rw [List.take_length] at hps
    repeat' (first
 | (apply GC_seqK; intro K hK)
 | (apply hK; clear hK K)
 | (clear hK K; apply hK; clear hK K)
 | (apply GC_region)
 | (apply GL_nil)
 | (apply thenG_normal)
 | (apply thenG_exit)
 | (apply blockG_hit)
 | (apply GC_ret)
 | (apply GC_exit)
 | (apply GC_if_false; eq_refl)
 | (apply retG1; eq_refl)
 | (apply GL_on; eq_refl; eq_refl)
 | (apply G_pv; eq_refl; first | exact trivial | omega)
 | (apply G_cmpF; eq_refl; eq_refl; omega))
    exact ⟨[.vec encS 1 67 A kA ps, .any (bun (fam rowJ ps))], (by repeat first | exact Wk.nil | exact Wk.refl | (apply Wk.cons; (focus ((repeat first | exact Rem.here | apply Rem.there | apply Rem.skip); done))) | apply Wk.nilv | apply Wk.last | apply Wk.drop), ps, A, kA, rfl, hps, rfl⟩
end SC
end Go.Proofs.Ytbmngkdnebklpaa
end
section
/- trestleref16: Step0, Next0, First0: the walks. -/
set_option linter.unusedVariables false
set_option linter.unusedSimpArgs false
namespace Go.Proofs.Ytbmngkdnebklpaa
namespace SC
open Go.Proofs
attribute [local irreducible] WC WL WX WS WO OX Does DoesU Enters CV Pure thenQ blockQ retQ Wants retQC GC GL GS GX RdB thenG blockG retG Rd At gt CVN CVM
set_option maxRecDepth 100000
theorem gate16_cv {w : World} {o l r : Int} (ho : -10050000 ≤ o ∧ o ≤ 10050000) (hl : -10050000 ≤ l ∧ l ≤ 10050000) (hr : -10050000 ≤ r ∧ r ≤ 10050000) : CVN Try.prog 84 [nu o, nu l, nu r] w (CliR [[-o, l], [-o, r], [o, -l, -r]]) := by
  refine CVN.enter 22 [6] Try.func84 rfl rfl rfl (by decide) rfl ?_
  repeat' (first
 | (apply GC_seqK; intro K hK)
 | (apply hK; clear hK K)
 | (apply GC_region)
 | (apply GL_nil)
 | (apply thenG_normal)
 | (apply GC_ret)
 | (apply retG1; eq_refl)
 | (apply GL_on; eq_refl; eq_refl)
 | (apply G_pv; eq_refl; first | exact trivial | omega)
 | (apply G_neg; eq_refl; omega; omega)
 | (apply G_new (fun b => .slice (some ⟨b, 0, none⟩) 2 2); eq_refl; (intro _; apply buildS67_2 <;> eq_refl); intro _)
 | (apply G_new (fun b => .slice (some ⟨b, 0, none⟩) 3 3); eq_refl; (intro _; apply buildS67_3 <;> eq_refl); intro _)
 | (apply G_new (fun b => .slice (some ⟨b, 0, none⟩) 3 3); eq_refl; (intro _; apply buildS32_3 <;> eq_refl); intro _))
  rename_i b1 b2 b3 b4
  refine ⟨[.vec encS 1 67 (some ⟨b4, 0, none⟩) 3 [((some ⟨b1, 0, none⟩, 2), [-o, l]), ((some ⟨b2, 0, none⟩, 2), [-o, r]), ((some ⟨b3, 0, none⟩, 3), [o, -l, -r])], .any (bun (fam rowJ [((some ⟨b1, 0, none⟩, 2), [-o, l]), ((some ⟨b2, 0, none⟩, 2), [-o, r]), ((some ⟨b3, 0, none⟩, 3), [o, -l, -r])]))], ?_, _, _, _, rfl, rfl, rfl⟩
  exact Wk.consV (by repeat first | exact Rem.here | apply Rem.there | apply Rem.skip) (Dec.c1 rfl (Dec.c1 rfl (Dec.c1 rfl Dec.nil))) rfl (Nat.le_of_ble_eq_true rfl) ((rows_nil .refl).trans (Wk.add3 (ps := []) .here (by repeat first | exact Rem.here | apply Rem.there | apply Rem.skip) (by repeat first | exact Rem.here | apply Rem.there | apply Rem.skip) (by repeat first | exact Rem.here | apply Rem.there | apply Rem.skip) rfl rfl rfl (Nat.le_of_ble_eq_true rfl) (Nat.le_of_ble_eq_true rfl) (Nat.le_of_ble_eq_true rfl) (by repeat first | exact Wk.nil | exact Wk.refl | (apply Wk.cons; (focus ((repeat first | exact Rem.here | apply Rem.there | apply Rem.skip); done))) | apply Wk.nilv | apply Wk.last | apply Wk.drop)))
theorem step0_cv {w : World} {c : Circ} {h js : Hd} {t : Int} (R : Right c) (H : CirAt w c h js) (t0 : 0 ≤ t) (t1 : t ≤ 600) : CVN Try.prog 55 [.agg (ccells c h).toArray, nu t] w (CliR (stepS c t)) := by
  have hAnd := H.ands
  have hCon := H.constraints
  have m0 := R.m0
  have m1 := R.m1
  have n3 := R.nAnd
  have n4 := R.nCon
  obtain ⟨z0, z1⟩ := mul_le t0 t1 m0 m1
  have hat : ∀ Γ l, inR c l → ∀ w', Mem w' Γ → CVN Try.prog 52 [.agg (ccells c h).toArray, nu l, nu t] w' fun v N => N = [] ∧ v = nu (atM c.max l t) := fun Γ l hl w' M => lit16_cv hl.1 (by unfold inR at hl; omega) z0 z1
  refine CVN.enter 59 [4] Try.func55 rfl rfl rfl (by decide) rfl ?_
  repeat' (first
 | (apply GC_seqK; intro K hK)
 | (apply hK; clear hK K)
 | (apply GC_block)
 | (apply GC_region)
 | (apply GL_nil)
 | (apply thenG_normal)
 | (apply GL_on; eq_refl; eq_refl)
 | (apply G_pv; eq_refl; first | exact trivial | omega)
 | (apply G_box; eq_refl; eq_refl; intro _))
  rename_i b2
  refine GC_loopK [1, 2] (fun s : Nat × List (Hdl × List Int) × Option Addr × Nat => [(5, .slice s.2.2.1 s.2.1.length s.2.2.2), (6, nu s.1)]) (fun s => [.any (bun (fam rowJ s.2.1)), .vec encS 1 67 s.2.2.1 s.2.2.2 s.2.1, .box b2 29 (ccells c h), .old w none_])
    (fun s => s.1 ≤ c.ands.length ∧ s.2.1.map (·.2) = (c.ands.take s.1).flatMap (gateS c.max t)) (fun s => c.ands.length - s.1) (0, [], none, 0) (by repeat first | exact Pick.nil | (apply Pick.cons; eq_refl)) (by repeat first | exact trivial | refine ⟨rfl, ?_⟩) (rows_nil (Wk.nilv (by repeat first | exact Wk.nil | exact Wk.refl | (apply Wk.cons; (focus ((repeat first | exact Rem.here | apply Rem.there | apply Rem.skip); done))) | apply Wk.nilv | apply Wk.last | apply Wk.drop))) ⟨Nat.zero_le _, rfl⟩ ?_
  rintro ⟨i, ps, A, kA⟩ ⟨hi, hps⟩
  dsimp only at hi hps ⊢
  have hpl : ps.length = 3 * i := by
    have := congrArg List.length hps
    rw [List.length_map, flat_eq (fun _ => gateS_len)] at this
    simp only [List.length_take] at this
    omega
  rcases Nat.lt_or_ge i c.ands.length with hlt | hge
  · obtain ⟨g1, g2, g3⟩ := R.gate (gt_mem (l := c.ands) (i := (i : Int)) (by omega) (by omega))
    have g0 : inR c (gt c.ands (i : Int)).1 := g1.in
    have hga : ∀ Γ, ∀ w', Mem w' Γ → CVN Try.prog 84 [nu (atM c.max (gt c.ands (i : Int)).1 t), nu (atM c.max (gt c.ands (i : Int)).2.1 t), nu (atM c.max (gt c.ands (i : Int)).2.2 t)] w' fun v N => ∃ qs B kB, v = .slice B 3 kB ∧ qs.map (·.2) = gateS c.max t (gt c.ands (i : Int)) ∧ qs.length = 3 ∧ N = [.vec encS 1 67 B kB qs, .any (bun (fam rowJ qs))] := fun Γ w' M =>
      (gate16_cv (atM_le g0.1 (by unfold inR at g0; omega) z0 z1) (atM_le g2.1 (by unfold inR at g2; omega) z0 z1) (atM_le g3.1 (by unfold inR at g3; omega) z0 z1)).mono fun v N ⟨qs, B, kB, e1, e2, e3⟩ => by
        have e4 : qs.length = 3 := by have := congrArg List.length e2; simpa using this
        rw [e4] at e1
        exact ⟨qs, B, kB, e1, e2, e4, e3⟩
    have hsn := flat_snoc (f := gateS c.max t) hlt
    repeat' (first
 | (apply G_call; eq_refl; eq_refl; (apply hat; first | exact g0 | exact g2 | exact g3); rintro _ _ ⟨rfl, rfl⟩)
 | (apply G_call; eq_refl; eq_refl; (apply hga); rintro _ _ ⟨qs, B, kB, rfl, hqs, hql, rfl⟩)
 | (apply G_appV (enc := encS); (first | exact wr_p | kernel_rfl); eq_refl; eq_refl; (intro A c; (repeat first | exact Upd.here | apply Upd.there | apply Upd.skip)); infer_instance; (repeat first | exact In.here | apply In.there | apply In.skip); eq_refl; exact hql.symm; eq_refl; omega; decide; intro A9 k9)
 | (apply GC_seqK; intro K hK)
 | (apply hK; clear hK K)
 | (apply GC_block)
 | (apply GC_region)
 | (apply GL_nil)
 | (apply thenG_normal)
 | (apply blockG_normal)
 | (apply GC_skip)
 | (apply GC_if_true; eq_refl)
 | (apply GL_on; eq_refl; eq_refl)
 | (refine GC_draws (id := 6) [.q 0, .q 1, .q 2, .q 3, .q 4, .q 6, .q 7, .q 8, .q 9, .q 11, .q 12, .q 13, .q 14, .c 5, .c 10, .c 15, .c 16, .c 17, .q 18] mixed (by kernel_rfl) (by kernel_rfl) ?_)
 | (apply GS_nil)
 | (apply GS_qon; eq_refl; eq_refl; eq_refl; eq_refl)
 | (apply GS_con; eq_refl; eq_refl; eq_refl; eq_refl)
 | (apply G_pv; eq_refl; first | exact trivial | omega)
 | (apply G_field; eq_refl)
 | (apply G_ld; eq_refl; (repeat first | exact In.here | apply In.there | apply In.skip); eq_refl)
 | (apply G_ldW; eq_refl; (repeat first | exact In.here | apply In.there | apply In.skip); eq_refl)
 | (apply G_rdW; eq_refl; (first | (apply Rd.own; (repeat first | exact In.here | apply In.there | apply In.skip); infer_instance) | (apply Rd.old; (repeat first | exact In.here | apply In.there | apply In.skip); assumption) | (apply Rd.oldR; (repeat first | exact In.here | apply In.there | apply In.skip); assumption) | exact Rd.nil | assumption); infer_instance; (case ih => infer_instance); omega; omega)
 | (apply G_cmpT; eq_refl; eq_refl; omega)
 | (apply G_len; eq_refl)
 | (apply G_ix; eq_refl; eq_refl; (first | (apply Rd.own; (repeat first | exact In.here | apply In.there | apply In.skip); infer_instance) | (apply Rd.old; (repeat first | exact In.here | apply In.there | apply In.skip); assumption) | (apply Rd.oldR; (repeat first | exact In.here | apply In.there | apply In.skip); assumption) | exact Rd.nil | assumption); (first | eq_refl | omega); omega; omega)
 | (apply G_alloc; eq_refl; intro _)
 | (apply G_stW; (first | exact wr_p | kernel_rfl); eq_refl; eq_refl; eq_refl; eq_refl; (repeat first | exact Upd.here | apply Upd.there | apply Upd.skip); eq_refl))
    refine ⟨(i + 1, ps ++ qs, A9, k9), (by repeat first | exact trivial | refine ⟨rfl, ?_⟩), Wk.rows (by repeat first | exact Rem.here | apply Rem.there | apply Rem.skip) (by repeat first | exact Rem.here | apply Rem.there | apply Rem.skip) (by repeat first | exact Wk.nil | exact Wk.refl | (apply Wk.cons; (focus ((repeat first | exact Rem.here | apply Rem.there | apply Rem.skip); done))) | apply Wk.nilv | apply Wk.last | apply Wk.drop), ⟨hlt, ?_⟩, by simp only; omega⟩
    simp only
    rw [hsn, List.map_append, hps, hqs]
  obtain rfl : i = c.ands.length := by omega
  rw [List.take_length] at hps
  repeat' (first
 | (apply GC_seqK; intro K hK)
 | (apply hK; clear hK K)
 | (clear hK K; apply hK; clear hK K)
 | (apply GC_block)
 | (apply GC_region)
 | (apply GL_nil)
 | (apply thenG_normal)
 | (apply thenG_exit)
 | (apply blockG_hit)
 | (apply GC_exit)
 | (apply GC_if_false; eq_refl)
 | (apply GL_on; eq_refl; eq_refl)
 | (apply G_pv; eq_refl; first | exact trivial | omega)
 | (apply G_field; eq_refl)
 | (apply G_ld; eq_refl; (repeat first | exact In.here | apply In.there | apply In.skip); eq_refl)
 | (apply G_cmpF; eq_refl; eq_refl; omega)
 | (apply G_len; eq_refl))
  refine GC_loopK [1, 2] (fun s : Nat × List (Hdl × List Int) × Option Addr × Nat => [(5, .slice s.2.2.1 s.2.1.length s.2.2.2), (8, nu s.1)]) (fun s => [.any (bun (fam rowJ s.2.1)), .vec encS 1 67 s.2.2.1 s.2.2.2 s.2.1, .box b2 29 (ccells c h), .old w none_])
    (fun s => s.1 ≤ c.constraints.length ∧ s.2.1.map (·.2) = gatesS c t ++ (c.constraints.take s.1).map fun l => [atM c.max l t]) (fun s => c.constraints.length - s.1) (0, ps, A, kA) (by repeat first | exact Pick.nil | (apply Pick.cons; eq_refl)) (by repeat first | exact trivial | refine ⟨rfl, ?_⟩) (by repeat first | exact Wk.nil | exact Wk.refl | (apply Wk.cons; (focus ((repeat first | exact Rem.here | apply Rem.there | apply Rem.skip); done))) | apply Wk.nilv | apply Wk.last | apply Wk.drop) ⟨Nat.zero_le _, by simp only [List.take_zero, List.map_nil, List.append_nil]; exact hps⟩ ?_
  clear hps hpl
  rintro ⟨i, ps, A, kA⟩ ⟨hi2, hps⟩
  dsimp only at hi2 hps ⊢
  have hpl : ps.length = 3 * c.ands.length + i := by
    have := congrArg List.length hps
    simp only [List.length_map, List.length_take, List.length_append, gatesS_len] at this
    omega
  rcases Nat.lt_or_ge i c.constraints.length with hlt | hge2
  · have g0 := R.con (gt_mem (l := c.constraints) (i := (i : Int)) (by omega) (by omega))
    repeat' (first
 | (apply G_call; eq_refl; eq_refl; (apply hat; exact g0); rintro _ _ ⟨rfl, rfl⟩)
 | (apply G_app (enc := encS); (first | exact wr_p | kernel_rfl); eq_refl; eq_refl; (intro A c; (repeat first | exact Upd.here | apply Upd.there | apply Upd.skip)); infer_instance; (repeat first | exact In.here | apply In.there | apply In.skip); (exact (Dec.c1 (a := ((_, _), [atM c.max (gt c.constraints (i : Int)) t])) rfl Dec.nil)); eq_refl; eq_refl; eq_refl; (simp only [List.length_cons, List.length_nil]; omega); decide; intro A9 k9)
 | (apply GC_seqK; intro K hK)
 | (apply hK; clear hK K)
 | (apply GC_block)
 | (apply GC_region)
 | (apply GL_nil)
 | (apply thenG_normal)
 | (apply blockG_normal)
 | (apply GC_skip)
 | (apply GC_if_true; eq_refl)
 | (apply GL_on; eq_refl; eq_refl)
 | (refine GC_draws (id := 10) [.q 0, .q 1, .q 2, .q 3, .q 4, .q 5, .q 6, .q 7, .c 8, .c 9, .c 10, .c 11, .q 12] mixed (by kernel_rfl) (by kernel_rfl) ?_)
 | (apply GS_nil)
 | (apply GS_qon; eq_refl; eq_refl; eq_refl; eq_refl)
 | (apply GS_con; eq_refl; eq_refl; eq_refl; eq_refl)
 | (apply G_pv; eq_refl; first | exact trivial | omega)
 | (apply G_field; eq_refl)
 | (apply G_ld; eq_refl; (repeat first | exact In.here | apply In.there | apply In.skip); eq_refl)
 | (apply G_ldW; eq_refl; (repeat first | exact In.here | apply In.there | apply In.skip); eq_refl)
 | (apply G_rd; eq_refl; (first | (apply Rd.own; (repeat first | exact In.here | apply In.there | apply In.skip); infer_instance) | (apply Rd.old; (repeat first | exact In.here | apply In.there | apply In.skip); assumption) | (apply Rd.oldR; (repeat first | exact In.here | apply In.there | apply In.skip); assumption) | exact Rd.nil | assumption); (case ih => infer_instance); omega; omega; eq_refl)
 | (apply G_cmpT; eq_refl; eq_refl; omega)
 | (apply G_len; eq_refl)
 | (apply G_ix; eq_refl; eq_refl; (first | (apply Rd.own; (repeat first | exact In.here | apply In.there | apply In.skip); infer_instance) | (apply Rd.old; (repeat first | exact In.here | apply In.there | apply In.skip); assumption) | (apply Rd.oldR; (repeat first | exact In.here | apply In.there | apply In.skip); assumption) | exact Rd.nil | assumption); (first | eq_refl | omega); omega; omega)
 | (apply G_new (fun b => .slice (some ⟨b, 0, none⟩) 1 1); eq_refl; (intro _; apply buildS67_1 <;> eq_refl); intro _)
 | (apply G_new (fun b => .slice (some ⟨b, 0, none⟩) 1 1); eq_refl; (intro _; apply buildS32_1 <;> eq_refl); intro _))
    rename_i c1 c4
    refine ⟨(i + 1, ps ++ [((some ⟨c1, 0, none⟩, 1), [atM c.max (gt c.constraints (i : Int)) t])], A9, k9), (by repeat first | exact trivial | refine ⟨rfl, ?_⟩), (by dsimp only; exact Wk.add1 (by repeat first | exact Rem.here | apply Rem.there | apply Rem.skip) (by repeat first | exact Rem.here | apply Rem.there | apply Rem.skip) rfl (Nat.le_of_ble_eq_true rfl) (by repeat first | exact Wk.nil | exact Wk.refl | (apply Wk.cons; (focus ((repeat first | exact Rem.here | apply Rem.there | apply Rem.skip); done))) | apply Wk.nilv | apply Wk.last | apply Wk.drop)), ⟨hlt, ?_⟩, by simp only; omega⟩
    simp only
    rw [List.take_succ_eq_append_getElem hlt, List.map_append, List.map_append, hps, ← gt_nat hlt, List.append_assoc]
    rfl
  · obtain rfl : i = c.constraints.length := by omega
    rw [List.take_length] at hps
    repeat' (first
 | (apply GC_seqK; intro K hK)
 | (apply hK; clear hK K)
 | (clear hK K; apply hK; clear hK K)
 | (apply GC_region)
 | (apply GL_nil)
 | (apply thenG_normal)
 | (apply thenG_exit)
 | (apply blockG_hit)
 | (apply GC_ret)
 | (apply GC_exit)
 | (apply GC_if_false; eq_refl)
 | (apply retG1; eq_refl)
 | (apply GL_on; eq_refl; eq_refl)
 | (apply G_pv; eq_refl; first | exact trivial | omega)
 | (apply G_field; eq_refl)
 | (apply G_ld; eq_refl; (repeat first | exact In.here | apply In.there | apply In.skip); eq_refl)
 | (apply G_cmpF; eq_refl; eq_refl; omega)
 | (apply G_len; eq_refl))
    exact ⟨[.vec encS 1 67 A kA ps, .any (bun (fam rowJ ps))], (by repeat first | exact Wk.nil | exact Wk.refl | (apply Wk.cons; (focus ((repeat first | exact Rem.here | apply Rem.there | apply Rem.skip); done))) | apply Wk.nilv | apply Wk.last | apply Wk.drop), ps, A, kA, rfl, hps, rfl⟩
theorem next0_cv {w : World} {c : Circ} {h js : Hd} {t : Int} (R : Right c) (H : CirAt w c h js) (t0 : 0 ≤ t) (t1 : t ≤ 599) : CVN Try.prog 56 [.agg (ccells c h).toArray, nu t] w (CliR (nextS c t)) := by
  have hLat := H.latches
  have m0 := R.m0
  have m1 := R.m1
  have n3 := R.nLat
  obtain ⟨z0, z1⟩ := mul_le t0 (by omega : t ≤ 600) m0 m1
  obtain ⟨y0, y1⟩ := mul_le (by omega : 0 ≤ t + 1) (by omega : t + 1 ≤ 600) m0 m1
  have hat : ∀ Γ l, inR c l → ∀ w', Mem w' Γ → CVN Try.prog 52 [.agg (ccells c h).toArray, nu l, nu t] w' fun v N => N = [] ∧ v = nu (atM c.max l t) := fun Γ l hl w' M => lit16_cv hl.1 (by unfold inR at hl; omega) z0 z1
  have hat2 : ∀ Γ l, inR c l → ∀ w', Mem w' Γ → CVN Try.prog 52 [.agg (ccells c h).toArray, nu l, nu (t + 1)] w' fun v N => N = [] ∧ v = nu (atM c.max l (t + 1)) := fun Γ l hl w' M => lit16_cv hl.1 (by unfold inR at hl; omega) y0 y1
  refine CVN.enter 47 [4] Try.func56 rfl rfl rfl (by decide) rfl ?_
  repeat' (first
 | (apply GC_seqK; intro K hK)
 | (apply hK; clear hK K)
 | (apply GC_block)
 | (apply GC_region)
 | (apply GL_nil)
 | (apply thenG_normal)
 | (apply GL_on; eq_refl; eq_refl)
 | (apply G_pv; eq_refl; first | exact trivial | omega)
 | (apply G_box; eq_refl; eq_refl; intro _))
  rename_i b2
  refine GC_loopK [1, 2] (fun s : Nat × List (Hdl × List Int) × Option Addr × Nat => [(5, .slice s.2.2.1 s.2.1.length s.2.2.2), (6, nu s.1)]) (fun s => [.any (bun (fam rowJ s.2.1)), .vec encS 1 67 s.2.2.1 s.2.2.2 s.2.1, .box b2 29 (ccells c h), .old w none_])
    (fun s => s.1 ≤ c.latches.length ∧ s.2.1.map (·.2) = (c.latches.take s.1).flatMap (nxtS c.max t)) (fun s => c.latches.length - s.1) (0, [], none, 0) (by repeat first | exact Pick.nil | (apply Pick.cons; eq_refl)) (by repeat first | exact trivial | refine ⟨rfl, ?_⟩) (rows_nil (Wk.nilv (by repeat first | exact Wk.nil | exact Wk.refl | (apply Wk.cons; (focus ((repeat first | exact Rem.here | apply Rem.there | apply Rem.skip); done))) | apply Wk.nilv | apply Wk.last | apply Wk.drop))) ⟨Nat.zero_le _, rfl⟩ ?_
  rintro ⟨i, ps, A, kA⟩ ⟨hi, hps⟩
  dsimp only at hi hps ⊢
  have hpl : ps.length = 2 * i := by
    have := congrArg List.length hps
    rw [List.length_map, flat_eq (fun _ => nxtS_len)] at this
    simp only [List.length_take] at this
    omega
  rcases Nat.lt_or_ge i c.latches.length with hlt | hge
  · obtain ⟨g1, g2, _⟩ := R.lat (gt_mem (l := c.latches) (i := (i : Int)) (by omega) (by omega))
    have g0 : inR c (gt c.latches (i : Int)).1 := g1.in
    have a1 := atM_le (mx := c.max) (t := t + 1) g0.1 (by unfold inR at g0; omega) y0 y1
    have a2 := atM_le (mx := c.max) (t := t) g2.1 (by unfold inR at g2; omega) z0 z1
    have hsn := flat_snoc (f := nxtS c.max t) hlt
    repeat' (first
 | (apply G_call; eq_refl; eq_refl; (first | (apply hat; first | exact g0 | exact g2) | (apply hat2; first | exact g0 | exact g2)); rintro _ _ ⟨rfl, rfl⟩)
 | (apply G_app (enc := encS); (first | exact wr_p | kernel_rfl); eq_refl; eq_refl; (intro A c; (repeat first | exact Upd.here | apply Upd.there | apply Upd.skip)); infer_instance; (repeat first | exact In.here | apply In.there | apply In.skip); (exact (Dec.c1 (a := ((_, _), [-atM c.max (gt c.latches (i : Int)).1 (t + 1), atM c.max (gt c.latches (i : Int)).2.1 t])) rfl (Dec.c1 (a := ((_, _), [atM c.max (gt c.latches (i : Int)).1 (t + 1), -atM c.max (gt c.latches (i : Int)).2.1 t])) rfl Dec.nil))); eq_refl; eq_refl; eq_refl; (simp only [List.length_cons, List.length_nil]; omega); decide; intro A9 k9)
 | (apply GC_seqK; intro K hK)
 | (apply hK; clear hK K)
 | (apply GC_block)
 | (apply GC_region)
 | (apply GL_nil)
 | (apply thenG_normal)
 | (apply blockG_normal)
 | (apply GC_skip)
 | (apply GC_if_true; eq_refl)
 | (apply GL_on; eq_refl; eq_refl)
 | (refine GC_draws (id := 5) [.q 0, .q 1, .q 2, .q 3, .q 4, .q 5, .q 6, .q 7, .q 8, .q 10, .q 11, .q 12, .q 13, .q 14, .q 15, .q 16, .q 17, .c 9, .c 18, .q 19, .q 20] mixed (by kernel_rfl) (by kernel_rfl) ?_)
 | (apply GS_nil)
 | (apply GS_qon; eq_refl; eq_refl; eq_refl; eq_refl)
 | (apply GS_con; eq_refl; eq_refl; eq_refl; eq_refl)
 | (apply G_pv; eq_refl; first | exact trivial | omega)
 | (apply G_field; eq_refl)
 | (apply G_fieldP; eq_refl)
 | (apply G_ld; eq_refl; (repeat first | exact In.here | apply In.there | apply In.skip); eq_refl)
 | (apply G_ldW; eq_refl; (repeat first | exact In.here | apply In.there | apply In.skip); eq_refl)
 | (apply G_rd; eq_refl; (first | (apply Rd.own; (repeat first | exact In.here | apply In.there | apply In.skip); infer_instance) | (apply Rd.old; (repeat first | exact In.here | apply In.there | apply In.skip); assumption) | (apply Rd.oldR; (repeat first | exact In.here | apply In.there | apply In.skip); assumption) | exact Rd.nil | assumption); (case ih => infer_instance); omega; omega; eq_refl)
 | (apply G_rdF; eq_refl; (first | (apply Rd.own; (repeat first | exact In.here | apply In.there | apply In.skip); infer_instance) | (apply Rd.old; (repeat first | exact In.here | apply In.there | apply In.skip); assumption) | (apply Rd.oldR; (repeat first | exact In.here | apply In.there | apply In.skip); assumption) | exact Rd.nil | assumption); (case ih => infer_instance); omega; omega; eq_refl)
 | (apply G_cmpT; eq_refl; eq_refl; omega)
 | (apply G_len; eq_refl)
 | (apply G_ix; eq_refl; eq_refl; (first | (apply Rd.own; (repeat first | exact In.here | apply In.there | apply In.skip); infer_instance) | (apply Rd.old; (repeat first | exact In.here | apply In.there | apply In.skip); assumption) | (apply Rd.oldR; (repeat first | exact In.here | apply In.there | apply In.skip); assumption) | exact Rd.nil | assumption); (first | eq_refl | omega); omega; omega)
 | (apply G_neg; eq_refl; omega; omega)
 | (apply G_new (fun b => .slice (some ⟨b, 0, none⟩) 2 2); eq_refl; (intro _; apply buildS67_2 <;> eq_refl); intro _)
 | (apply G_new (fun b => .slice (some ⟨b, 0, none⟩) 2 2); eq_refl; (intro _; apply buildS32_2 <;> eq_refl); intro _))
    rename_i c1 c2 c4
    refine ⟨(i + 1, ps ++ [((some ⟨c1, 0, none⟩, 2), [-atM c.max (gt c.latches (i : Int)).1 (t + 1), atM c.max (gt c.latches (i : Int)).2.1 t]), ((some ⟨c2, 0, none⟩, 2), [atM c.max (gt c.latches (i : Int)).1 (t + 1), -atM c.max (gt c.latches (i : Int)).2.1 t])], A9, k9), (by repeat first | exact trivial | refine ⟨rfl, ?_⟩), (by dsimp only; exact Wk.add2 (by repeat first | exact Rem.here | apply Rem.there | apply Rem.skip) (by repeat first | exact Rem.here | apply Rem.there | apply Rem.skip) (by repeat first | exact Rem.here | apply Rem.there | apply Rem.skip) rfl rfl (Nat.le_of_ble_eq_true rfl) (Nat.le_of_ble_eq_true rfl) (by repeat first | exact Wk.nil | exact Wk.refl | (apply Wk.cons; (focus ((repeat first | exact Rem.here | apply Rem.there | apply Rem.skip); done))) | apply Wk.nilv | apply Wk.last | apply Wk.drop)), ⟨hlt, ?_⟩, by simp only; omega⟩
    simp only
    rw [hsn, List.map_append, hps]
    rfl
  · obtain rfl : i = c.latches.length := by omega
    rw [List.take_length] at hps
    repeat' (first
 | (apply GC_seqK; intro K hK)
 | (apply hK; clear hK K)
 | (clear hK K; apply hK; clear hK K)
 | (apply GC_region)
 | (apply GL_nil)
 | (apply thenG_normal)
 | (apply thenG_exit)
 | (apply blockG_hit)
 | (apply GC_ret)
 | (apply GC_exit)
 | (apply GC_if_false; eq_refl)
 | (apply retG1; eq_refl)
 | (apply GL_on; eq_refl; eq_refl)
 | (apply G_pv; eq_refl; first | exact trivial | omega)
 | (apply G_field; eq_refl)
 | (apply G_ld; eq_refl; (repeat first | exact In.here | apply In.there | apply In.skip); eq_refl)
 | (apply G_cmpF; eq_refl; eq_refl; omega)
 | (apply G_len; eq_refl))
    exact ⟨[.vec encS 1 67 A kA ps, .any (bun (fam rowJ ps))], (by repeat first | exact Wk.nil | exact Wk.refl | (apply Wk.cons; (focus ((repeat first | exact Rem.here | apply Rem.there | apply Rem.skip); done))) | apply Wk.nilv | apply Wk.last | apply Wk.drop), ps, A, kA, rfl, hps, rfl⟩
theorem first0_cv {w : World} {c : Circ} {h js : Hd} (R : Right c) (H : CirAt w c h js) : CVN Try.prog 57 [.agg (ccells c h).toArray] w (CliR (firstS c)) := by
  have hLat := H.latches
  have m0 := R.m0
  have m1 := R.m1
  have n3 := R.nLat
  have hat : ∀ Γ l, inR c l → ∀ w', Mem w' Γ → CVN Try.prog 52 [.agg (ccells c h).toArray, nu l, nu 0] w' fun v N => N = [] ∧ v = nu (atM c.max l 0) := fun Γ l hl w' M => lit16_cv hl.1 (by unfold inR at hl; omega) (by omega) (by omega)
  refine CVN.enter 47 [2] Try.func57 rfl rfl rfl (by decide) rfl ?_
  repeat' (first
 | (apply GC_seqK; intro K hK)
 | (apply hK; clear hK K)
 | (apply GC_block)
 | (apply GC_region)
 | (apply GL_nil)
 | (apply thenG_normal)
 | (apply GL_on; eq_refl; eq_refl)
 | (apply G_pv; eq_refl; first | exact trivial | omega)
 | (apply G_box; eq_refl; eq_refl; intro _))
  rename_i b2
  refine GC_loopK [1] (fun s : Nat × List (Hdl × List Int) × Option Addr × Nat => [(3, .slice s.2.2.1 s.2.1.length s.2.2.2), (4, nu s.1)]) (fun s => [.any (bun (fam rowJ s.2.1)), .vec encS 1 67 s.2.2.1 s.2.2.2 s.2.1, .box b2 29 (ccells c h), .old w none_])
    (fun s => s.1 ≤ c.latches.length ∧ s.2.1.map (·.2) = (c.latches.take s.1).flatMap (rstS c.max)) (fun s => c.latches.length - s.1) (0, [], none, 0) (by repeat first | exact Pick.nil | (apply Pick.cons; eq_refl)) (by repeat first | exact trivial | refine ⟨rfl, ?_⟩) (rows_nil (Wk.nilv (by repeat first | exact Wk.nil | exact Wk.refl | (apply Wk.cons; (focus ((repeat first | exact Rem.here | apply Rem.there | apply Rem.skip); done))) | apply Wk.nilv | apply Wk.last | apply Wk.drop))) ⟨Nat.zero_le _, rfl⟩ ?_
  rintro ⟨i, ps, A, kA⟩ ⟨hi, hps⟩
  dsimp only at hi hps ⊢
  have hpl : ps.length ≤ i := by
    have h1 := congrArg List.length hps
    have h2 := flat_le (f := rstS c.max) (fun _ => rstS_len) (c.latches.take i)
    rw [List.length_map] at h1
    simp only [List.length_take] at h2
    omega
  rcases Nat.lt_or_ge i c.latches.length with hlt | hge
  · obtain ⟨g1, g2, g3⟩ := R.lat (gt_mem (l := c.latches) (i := (i : Int)) (by omega) (by omega))
    have g0 : inR c (gt c.latches (i : Int)).1 := g1.in
    have a1 := atM_le (mx := c.max) (t := 0) g0.1 (by unfold inR at g0; omega) (by omega) (by omega)
    have hsn := flat_snoc (f := rstS c.max) hlt
    by_cases h0 : (gt c.latches (i : Int)).2.2 = 0
    · have er : rstS c.max (gt c.latches (i : Int)) = [[-atM c.max (gt c.latches (i : Int)).1 0]] := if_pos h0
      repeat' (first
 | (apply G_call; eq_refl; eq_refl; (apply hat; exact g0); rintro _ _ ⟨rfl, rfl⟩)
 | (apply G_app (enc := encS); (first | exact wr_p | kernel_rfl); eq_refl; eq_refl; (intro A c; (repeat first | exact Upd.here | apply Upd.there | apply Upd.skip)); infer_instance; (repeat first | exact In.here | apply In.there | apply In.skip); (exact (Dec.c1 (a := ((_, _), [-atM c.max (gt c.latches (i : Int)).1 0])) rfl Dec.nil)); eq_refl; eq_refl; eq_refl; (simp only [List.length_cons, List.length_nil]; omega); decide; intro A9 k9)
 | (apply GC_seqK; intro K hK)
 | (apply hK; clear hK K)
 | (apply GC_block)
 | (apply GC_region)
 | (apply GL_nil)
 | (apply thenG_normal)
 | (apply blockG_normal)
 | (apply GC_skip)
 | (apply GC_if_true; eq_refl)
 | (apply GC_if_false; eq_refl)
 | (apply GL_on; eq_refl; eq_refl)
 | (refine GC_draws (id := 5) [.q 0, .q 1, .q 2, .q 3, .q 4, .q 5, .q 6, .c 7, .q 8] mixed (by kernel_rfl) (by kernel_rfl) ?_)
 | (apply GS_nil)
 | (apply GS_qon; eq_refl; eq_refl; eq_refl; eq_refl)
 | (apply GS_con; eq_refl; eq_refl; eq_refl; eq_refl)
 | (apply G_pv; eq_refl; first | exact trivial | omega)
 | (apply G_field; eq_refl)
 | (apply G_fieldP; eq_refl)
 | (apply G_ld; eq_refl; (repeat first | exact In.here | apply In.there | apply In.skip); eq_refl)
 | (apply G_ldW; eq_refl; (repeat first | exact In.here | apply In.there | apply In.skip); eq_refl)
 | (apply G_rd; eq_refl; (first | (apply Rd.own; (repeat first | exact In.here | apply In.there | apply In.skip); infer_instance) | (apply Rd.old; (repeat first | exact In.here | apply In.there | apply In.skip); assumption) | (apply Rd.oldR; (repeat first | exact In.here | apply In.there | apply In.skip); assumption) | exact Rd.nil | assumption); (case ih => infer_instance); omega; omega; eq_refl)
 | (apply G_rdF; eq_refl; (first | (apply Rd.own; (repeat first | exact In.here | apply In.there | apply In.skip); infer_instance) | (apply Rd.old; (repeat first | exact In.here | apply In.there | apply In.skip); assumption) | (apply Rd.oldR; (repeat first | exact In.here | apply In.there | apply In.skip); assumption) | exact Rd.nil | assumption); (case ih => infer_instance); omega; omega; eq_refl)
 | (apply G_cmpT; eq_refl; eq_refl; omega)
 | (apply G_cmpF; eq_refl; eq_refl; omega)
 | (apply G_len; eq_refl)
 | (apply G_ix; eq_refl; eq_refl; (first | (apply Rd.own; (repeat first | exact In.here | apply In.there | apply In.skip); infer_instance) | (apply Rd.old; (repeat first | exact In.here | apply In.there | apply In.skip); assumption) | (apply Rd.oldR; (repeat first | exact In.here | apply In.there | apply In.skip); assumption) | exact Rd.nil | assumption); (first | eq_refl | omega); omega; omega)
 | (apply G_neg; eq_refl; omega; omega)
 | (apply G_new (fun b => .slice (some ⟨b, 0, none⟩) 1 1); eq_refl; (intro _; apply buildS67_1 <;> eq_refl); intro _)
 | (apply G_new (fun b => .slice (some ⟨b, 0, none⟩) 1 1); eq_refl; (intro _; apply buildS32_1 <;> eq_refl); intro _))
      rename_i c1 c4
      refine ⟨(i + 1, ps ++ [((some ⟨c1, 0, none⟩, 1), [-atM c.max (gt c.latches (i : Int)).1 0])], A9, k9), (by repeat first | exact trivial | refine ⟨rfl, ?_⟩), (by dsimp only; exact Wk.add1 (by repeat first | exact Rem.here | apply Rem.there | apply Rem.skip) (by repeat first | exact Rem.here | apply Rem.there | apply Rem.skip) rfl (Nat.le_of_ble_eq_true rfl) (by repeat first | exact Wk.nil | exact Wk.refl | (apply Wk.cons; (focus ((repeat first | exact Rem.here | apply Rem.there | apply Rem.skip); done))) | apply Wk.nilv | apply Wk.last | apply Wk.drop)), ⟨hlt, ?_⟩, by simp only; omega⟩
      simp only
      rw [hsn, List.map_append, hps, er]
      rfl
    · by_cases h1 : (gt c.latches (i : Int)).2.2 = 1
      · have er : rstS c.max (gt c.latches (i : Int)) = [[atM c.max (gt c.latches (i : Int)).1 0]] := by
          unfold rstS
          rw [if_neg h0, if_pos h1]
        repeat' (first
 | (apply G_call; eq_refl; eq_refl; (apply hat; exact g0); rintro _ _ ⟨rfl, rfl⟩)
 | (apply G_app (enc := encS); (first | exact wr_p | kernel_rfl); eq_refl; eq_refl; (intro A c; (repeat first | exact Upd.here | apply Upd.there | apply Upd.skip)); infer_instance; (repeat first | exact In.here | apply In.there | apply In.skip); (exact (Dec.c1 (a := ((_, _), [atM c.max (gt c.latches (i : Int)).1 0])) rfl Dec.nil)); eq_refl; eq_refl; eq_refl; (simp only [List.length_cons, List.length_nil]; omega); decide; intro A9 k9)
 | (apply GC_seqK; intro K hK)
 | (apply hK; clear hK K)
 | (apply GC_block)
 | (apply GC_region)
 | (apply GL_nil)
 | (apply thenG_normal)
 | (apply blockG_normal)
 | (apply GC_skip)
 | (apply GC_if_true; eq_refl)
 | (apply GC_if_false; eq_refl)
 | (apply GL_on; eq_refl; eq_refl)
 | (refine GC_draws (id := 5) [.q 0, .q 1, .q 2, .q 3, .q 4, .q 5, .q 6, .c 7, .q 8] mixed (by kernel_rfl) (by kernel_rfl) ?_)
 | (apply GS_nil)
 | (apply GS_qon; eq_refl; eq_refl; eq_refl; eq_refl)
 | (apply GS_con; eq_refl; eq_refl; eq_refl; eq_refl)
 | (apply G_pv; eq_refl; first | exact trivial | omega)
 | (apply G_field; eq_refl)
 | (apply G_fieldP; eq_refl)
 | (apply G_ld; eq_refl; (repeat first | exact In.here | apply In.there | apply In.skip); eq_refl)
 | (apply G_ldW; eq_refl; (repeat first | exact In.here | apply In.there | apply In.skip); eq_refl)
 | (apply G_rd; eq_refl; (first | (apply Rd.own; (repeat first | exact In.here | apply In.there | apply In.skip); infer_instance) | (apply Rd.old; (repeat first | exact In.here | apply In.there | apply In.skip); assumption) | (apply Rd.oldR; (repeat first | exact In.here | apply In.there | apply In.skip); assumption) | exact Rd.nil | assumption); (case ih => infer_instance); omega; omega; eq_refl)
 | (apply G_rdF; eq_refl; (first | (apply Rd.own; (repeat first | exact In.here | apply In.there | apply In.skip); infer_instance) | (apply Rd.old; (repeat first | exact In.here | apply In.there | apply In.skip); assumption) | (apply Rd.oldR; (repeat first | exact In.here | apply In.there | apply In.skip); assumption) | exact Rd.nil | assumption); (case ih => infer_instance); omega; omega; eq_refl)
 | (apply G_cmpT; eq_refl; eq_refl; omega)
 | (apply G_cmpF; eq_refl; eq_refl; omega)
 | (apply G_len; eq_refl)
 | (apply G_ix; eq_refl; eq_refl; (first | (apply Rd.own; (repeat first | exact In.here | apply In.there | apply In.skip); infer_instance) | (apply Rd.old; (repeat first | exact In.here | apply In.there | apply In.skip); assumption) | (apply Rd.oldR; (repeat first | exact In.here | apply In.there | apply In.skip); assumption) | exact Rd.nil | assumption); (first | eq_refl | omega); omega; omega)
 | (apply G_new (fun b => .slice (some ⟨b, 0, none⟩) 1 1); eq_refl; (intro _; apply buildS67_1 <;> eq_refl); intro _)
 | (apply G_new (fun b => .slice (some ⟨b, 0, none⟩) 1 1); eq_refl; (intro _; apply buildS32_1 <;> eq_refl); intro _))
        rename_i c1 c4
        refine ⟨(i + 1, ps ++ [((some ⟨c1, 0, none⟩, 1), [atM c.max (gt c.latches (i : Int)).1 0])], A9, k9), (by repeat first | exact trivial | refine ⟨rfl, ?_⟩), (by dsimp only; exact Wk.add1 (by repeat first | exact Rem.here | apply Rem.there | apply Rem.skip) (by repeat first | exact Rem.here | apply Rem.there | apply Rem.skip) rfl (Nat.le_of_ble_eq_true rfl) (by repeat first | exact Wk.nil | exact Wk.refl | (apply Wk.cons; (focus ((repeat first | exact Rem.here | apply Rem.there | apply Rem.skip); done))) | apply Wk.nilv | apply Wk.last | apply Wk.drop)), ⟨hlt, ?_⟩, by simp only; omega⟩
        simp only
        rw [hsn, List.map_append, hps, er]
        rfl
      · have er : rstS c.max (gt c.latches (i : Int)) = [] := by
          unfold rstS
          rw [if_neg h0, if_neg h1]
        repeat' (first
 | (apply G_call; eq_refl; eq_refl; (apply hat; exact g0); rintro _ _ ⟨rfl, rfl⟩)
 | (apply GC_seqK; intro K hK)
 | (apply hK; clear hK K)
 | (apply GC_block)
 | (apply GC_region)
 | (apply GL_nil)
 | (apply thenG_normal)
 | (apply blockG_normal)
 | (apply GC_skip)
 | (apply GC_if_true; eq_refl)
 | (apply GC_if_false; eq_refl)
 | (apply GL_on; eq_refl; eq_refl)
 | (refine GC_draws (id := 5) [.q 0, .q 1, .q 2, .q 3, .q 4, .q 5, .q 6, .c 7, .q 8] mixed (by kernel_rfl) (by kernel_rfl) ?_)
 | (apply GS_nil)
 | (apply GS_qon; eq_refl; eq_refl; eq_refl; eq_refl)
 | (apply GS_con; eq_refl; eq_refl; eq_refl; eq_refl)
 | (apply G_pv; eq_refl; first | exact trivial | omega)
 | (apply G_field; eq_refl)
 | (apply G_fieldP; eq_refl)
 | (apply G_ld; eq_refl; (repeat first | exact In.here | apply In.there | apply In.skip); eq_refl)
 | (apply G_ldW; eq_refl; (repeat first | exact In.here | apply In.there | apply In.skip); eq_refl)
 | (apply G_rd; eq_refl; (first | (apply Rd.own; (repeat first | exact In.here | apply In.there | apply In.skip); infer_instance) | (apply Rd.old; (repeat first | exact In.here | apply In.there | apply In.skip); assumption) | (apply Rd.oldR; (repeat first | exact In.here | apply In.there | apply In.skip); assumption) | exact Rd.nil | assumption); (case ih => infer_instance); omega; omega; eq_refl)
 | (apply G_rdF; eq_refl; (first | (apply Rd.own; (repeat first | exact In.here | apply In.there | apply In.skip); infer_instance) | (apply Rd.old; (repeat first | exact In.here | apply In.there | apply In.skip); assumption) | (apply Rd.oldR; (repeat first | exact In.here | apply In.there | apply In.skip); assumption) | exact Rd.nil | assumption); (case ih => infer_instance); omega; omega; eq_refl)
 | (apply G_cmpT; eq_refl; eq_refl; omega)
 | (apply G_cmpF; eq_refl; eq_refl; omega)
 | (apply G_len; eq_refl)
 | (apply G_ix; eq_refl; eq_refl; (first | (apply Rd.own; (repeat first | exact In.here | apply In.there | apply In.skip); infer_instance) | (apply Rd.old; (repeat first | exact In.here | apply In.there | apply In.skip); assumption) | (apply Rd.oldR; (repeat first | exact In.here | apply In.there | apply In.skip); assumption) | exact Rd.nil | assumption); (first | eq_refl | omega); omega; omega))
        refine ⟨(i + 1, ps, A, kA), (by repeat first | exact trivial | refine ⟨rfl, ?_⟩), (by repeat first | exact Wk.nil | exact Wk.refl | (apply Wk.cons; (focus ((repeat first | exact Rem.here | apply Rem.there | apply Rem.skip); done))) | apply Wk.nilv | apply Wk.last | apply Wk.drop), ⟨hlt, ?_⟩, by simp only; omega⟩
        simp only
        rw [hsn, hps, er, List.append_nil]
  · obtain rfl : i = c.latches.length := by omega
    rw [List.take_length] at hps
    repeat' (first
 | (apply GC_seqK; intro K hK)
 | (apply hK; clear hK K)
 | (clear hK K; apply hK; clear hK K)
 | (apply GC_region)
 | (apply GL_nil)
 | (apply thenG_normal)
 | (apply thenG_exit)
 | (apply blockG_hit)
 | (apply GC_ret)
 | (apply GC_exit)
 | (apply GC_if_false; eq_refl)
 | (apply retG1; eq_refl)
 | (apply GL_on; eq_refl; eq_refl)
 | (apply G_pv; eq_refl; first | exact trivial | omega)
 | (apply G_field; eq_refl)
 | (apply G_ld; eq_refl; (repeat first | exact In.here | apply In.there | apply In.skip); eq_refl)
 | (apply G_cmpF; eq_refl; eq_refl; omega)
 | (apply G_len; eq_refl))
    exact ⟨[.vec encS 1 67 A kA ps, .any (bun (fam rowJ ps))], (by repeat first | exact Wk.nil | exact Wk.refl | (apply Wk.cons; (focus ((repeat first | exact Rem.here | apply Rem.there | apply Rem.skip); done))) | apply Wk.nilv | apply Wk.last | apply Wk.drop), ps, A, kA, rfl, hps, rfl⟩
end SC
end Go.Proofs.Ytbmngkdnebklpaa
end
