/- Texts of this seat, one behind the other: L8 L9 L10. -/
import Derived.Test.YtkndegjodnciaaaP4
section
/- trestleref03: symbols. -/
set_option linter.unusedVariables false
set_option linter.unusedSimpArgs false
namespace Go.Proofs.Ytkndegjodnciaaa
namespace SC
open Go.Proofs
/-- What is to be shown later: stepping words stop here. -/
structure Later (p : Prop) : Prop where
  get : p
section
variable {P : Program} {n : Nat} {x y r b : Code} {Q : Post} {e : Env} {w : World}
theorem WC_mid (e1 : Env) (I : World → Prop) (h1 : WC P n x (fun s e' w' => s = .normal ∧ Sub e1 e' ∧ I w') e w) (h2 : Later (∀ w', I w' → WC P n y Q e1 w')) : WC P n (.seq x y) Q e w :=
  WC_seq (h1.mono fun s e' w' ⟨hs, hsub, hI⟩ => by subst hs; exact (h2.get w' hI).weaken hsub)
theorem WC_midB (i : Nat) (e1 : Env) (I : World → Prop) (h1 : WC P n (.seq r (.block i b)) (fun s e' w' => s = .normal ∧ Sub e1 e' ∧ I w') e w) (h2 : Later (∀ w', I w' → WC P n y Q e1 w')) : WC P n (.seq (.seq r (.block i b)) y) Q e w := WC_mid e1 I h1 h2
theorem WC_midR (i : Nat) {l : Array Oper} {d : Bool} (e1 : Env) (I : World → Prop) (h1 : WC P n (.region i l d) (fun s e' w' => s = .normal ∧ Sub e1 e' ∧ I w') e w) (h2 : Later (∀ w', I w' → WC P n y Q e1 w')) : WC P n (.seq (.region i l d) y) Q e w := WC_mid e1 I h1 h2
end
/-- How often a thing has a name before. -/
def SymF (ls : List Sym) (i : Nat) (f : Int → Int → Int) : Prop := ∀ p q, 0 ≤ f p q ∧ (0 < f p q ↔ ∃ k, ∃ hk : k < ls.length, k < i ∧ ls[k].kind = p ∧ ls[k].at_ = q)
theorem SymF.next {ls : List Sym} {i : Nat} {f : Int → Int → Int} (h : SymF ls i f) (hi : i < ls.length) : SymF ls (i + 1) (fun p q => if p = ls[i].kind ∧ q = ls[i].at_ then f ls[i].kind ls[i].at_ + 1 else f p q) := fun p q => by
  by_cases hc : p = ls[i].kind ∧ q = ls[i].at_
  · simp only [if_pos hc]
    have := (h ls[i].kind ls[i].at_).1
    exact ⟨by omega, fun _ => ⟨i, hi, by omega, hc.1.symm, hc.2.symm⟩, fun _ => by omega⟩
  · simp only [if_neg hc]
    refine ⟨(h p q).1, fun hh => ?_, fun ⟨k, hk, hki, h1, h2⟩ => ?_⟩
    · obtain ⟨k, hk, hki, h1, h2⟩ := (h p q).2.1 hh
      exact ⟨k, hk, by omega, h1, h2⟩
    · have : k ≠ i := fun e => by subst e; exact hc ⟨h1.symm, h2.symm⟩
      exact (h p q).2.2 ⟨k, hk, by omega, h1, h2⟩
attribute [local irreducible] WC WL WX WS WO OX Does DoesU Enters CV Pure thenQ blockQ retQ Wants retQC
set_option maxRecDepth 100000
theorem symbols82_cv {w : World} {c : Circ} {h js : Hd} (H : CirAt w c h js) (hs : c.Sane) : CV Try.prog 82 [.agg (ccells c h).toArray] w fun v w' => v = .tuple #[nu (if 0 ≤ goSym c c.symbols 0 fun _ _ => 0 then goSym c c.symbols 0 fun _ _ => 0 else 0), nu (if 0 ≤ goSym c c.symbols 0 fun _ _ => 0 then 35 else 0)] ∧ Chg w w' none_ := by
  have hN : Blk (w.alloc (.cells (ccells c h).toArray 51)) w.heap.size 51 (ccells c h) := Blk.new w _ _
  have hC := Chg.alloc w (.cells (ccells c h).toArray 51) none_
  have hlens := hs.lens
  refine enter 126 [2, 3] Try.func82 rfl rfl rfl (by decide) rfl ?_
  repeat' (first
      | (apply WC_seqK; intro K hK)
      | (apply hK; clear hK)
      | (apply WC_block)
      | (apply WC_region)
      | (apply WL_nil)
      | (apply thenQ_normal)
      | (apply WL_on0; eq_refl)
      | (apply X_pv; eq_refl; first | exact trivial | omega)
      | (apply X_box; eq_refl))
  generalize hr : (goSym c c.symbols 0 fun _ _ => 0) = r
  refine WC_loop (fun s : Nat × (Int → Int → Int) => [(1, pt w.heap.size), (4, nu s.1)])
    (fun s w1 => Chg w w1 none_ ∧ Blk w1 w.heap.size 51 (ccells c h) ∧ SymF c.symbols s.1 s.2 ∧ s.1 ≤ c.symbols.length ∧ goSym c (c.symbols.drop s.1) s.1 s.2 = r) (fun s => c.symbols.length - s.1) (0, fun _ _ => 0) ⟨rfl, rfl, trivial⟩ ⟨hC, hN, fun p q => ⟨Int.le_refl _, fun hh => absurd hh (Int.lt_irrefl 0), fun ⟨k, hk, hki, _⟩ => absurd hki (Nat.not_lt_zero _)⟩, Nat.zero_le _, hr⟩ ?_
  clear hC hN
  rintro ⟨k, f⟩ w1 ⟨hC1, hN1, hf, hk, hgo⟩
  simp only at hf hk hgo
  rcases Nat.lt_or_ge k c.symbols.length with hlt | hge
  · obtain ⟨p, hp, hc⟩ := H.symbols k hlt
    have hbad := fun hb => goSym_bad (c := c) (f := f) hlt hb
    have hokk := fun hb => goSym_ok (c := c) (f := f) hlt hb
    have hfn := hf.next hlt
    have hkind := hs.kinds _ (List.getElem_mem hlt)
    have hnm := hs.names _ (List.getElem_mem hlt)
    generalize hx : c.symbols[k] = s at *
    have e6 : (ccells c h)[0 + 9]? = some (.slice (some p) c.symbols.length (h 9).2) := by rw [← hp]; rfl
    repeat' (first
      | (apply X_loadR; eq_refl; exact hN1; exact e6)
      | (apply X_loadAP (scells s); eq_refl; eq_refl; exact (fun j u hj => cel_chg (hc j u hj) hC1 id))
      | (apply WC_seqK; intro K hK)
      | (apply hK; clear hK)
      | (apply WC_block)
      | (apply WC_region)
      | (apply WL_nil)
      | (apply thenQ_normal)
      | (apply WC_skip)
      | (apply WC_if_true; eq_refl)
      | (apply WL_on0; eq_refl)
      | (apply X_pv; eq_refl; first | exact trivial | omega)
      | (apply X_field; eq_refl)
      | (apply X_cmpT; eq_refl; eq_refl; omega)
      | (apply X_len; eq_refl)
      | (apply X_indexP; eq_refl; eq_refl; omega; omega)
      | (apply X_alloc))
    refine X_doesU (does_storeA (t1 := 117) (vs := scells s) (o := 0) (b := w1.heap.size) (by eq_refl) (by eq_refl) (Blk.newA w1 _ _) rfl (by exact Nat.le_refl 3) (by simp [scells, Value.oneCell'])) ?_
    have hcc : Chg w1 ((w1.alloc (.cells #[.int .u8 0, nu 0, .string ⟨#[]⟩] 117)).setRow w1.heap.size (scells s).toArray) none_ := (Chg.alloc w1 _ none_).trans (Chg.setRow _ w1.heap.size _ (S := fun k => k = w1.heap.size) rfl) fun k hk h => by omega
    refine WL_turn (fun w2 => Chg w w2 none_ ∧ Blk w2 w.heap.size 51 (ccells c h) ∧ Blk w2 w1.heap.size 117 (scells s)) ⟨hC1.trans hcc fun _ _ h => h, hN1.chg hcc id, (Blk.newA w1 _ 117).set (scells s)⟩ ?_
    clear hcc hC1 hN1
    generalize w1.heap.size = b5
    rintro w2 ⟨hC2, hN2, hS2⟩
    repeat' (first
      | (apply WC_midB 2 [(1, pt w.heap.size), (4, nu k), (5, pt b5), (6, nu (manyM c s.kind))] (fun W => W = w2))
      | (apply WC_seqK; intro K hK)
      | (apply hK; clear hK)
      | (apply WC_block)
      | (apply WC_region)
      | (apply WL_nil)
      | (apply thenQ_normal)
      | (apply blockQ_normal)
      | (apply WC_skip)
      | (apply WC_if_true; eq_refl)
      | (apply WC_if_false; eq_refl)
      | (apply WL_on0; eq_refl)
      | (apply X_pv; eq_refl; first | exact trivial | omega)
      | (apply X_field; eq_refl)
      | (apply X_loadR; eq_refl; (first | assumption | (apply Blk.alloc; assumption) | apply Blk.new | apply Blk.newA | (apply Blk.alloc; first | apply Blk.newA | (apply Blk.alloc; first | assumption | apply Blk.newA))); eq_refl)
      | (apply X_cmp; eq_refl; eq_refl; all_goals intro _)
      | (apply X_len; eq_refl))
    any_goals (refine ⟨rfl, ⟨rfl, rfl, rfl, congrArg (fun z => some (nu z)) ?_, trivial⟩, rfl⟩; unfold manyM; repeat (first | rw [if_pos (by assumption)] | rw [if_neg (by assumption)]))
    refine ⟨?_⟩
    rintro _ rfl
    obtain ⟨ok0, hok0⟩ : ∃ b : Bool, b = true ↔ (0 ≤ s.at_ ∧ s.at_ < manyM c s.kind ∧ 1 ≤ s.name.size ∧ s.name.size ≤ 64) := ⟨decide _, decide_eq_true_iff⟩
    generalize hM : manyM c s.kind = M at *
    rename_i w2
    repeat' (first
      | (apply WC_midR 21 [(1, pt w.heap.size), (4, nu k), (5, pt b5), (7, .bool ok0)] (fun W => W = w2))
      | (apply WC_region)
      | (apply WL_nil)
      | (apply WL_on0; eq_refl)
      | (apply WL_onG; eq_refl; eq_refl; eq_refl; eq_refl)
      | (apply WL_noG; eq_refl; eq_refl; eq_refl; eq_refl)
      | (apply X_pv; eq_refl; first | exact trivial | omega)
      | (apply X_field; eq_refl)
      | (apply X_loadR; eq_refl; (first | assumption | (apply Blk.alloc; assumption) | apply Blk.new | apply Blk.newA | (apply Blk.alloc; first | apply Blk.newA | (apply Blk.alloc; first | assumption | apply Blk.newA))); eq_refl)
      | (apply X_cmp; eq_refl; eq_refl; all_goals intro _)
      | (apply X_lenS; eq_refl))
    any_goals (refine ⟨rfl, ⟨rfl, rfl, rfl, congrArg (fun z => some (Value.bool z)) ?_, trivial⟩, rfl⟩; first | (exact (hok0.2 (by omega)).symm) | (exact (Bool.eq_false_iff.2 fun hh => by have := hok0.1 hh; omega).symm))
    refine ⟨?_⟩
    rintro _ rfl
    rename_i w2
    obtain ⟨ok1, hok1⟩ : ∃ b : Bool, b = true ↔ (ok0 = true ∧ ¬ lowName s.name) := by classical exact ⟨decide _, decide_eq_true_iff⟩
    repeat' (first
      | (apply WC_midB 3 [(1, pt w.heap.size), (4, nu k), (5, pt b5), (7, .bool ok1)] (fun W => W = w2))
      | (apply WC_seqK; intro K hK)
      | (apply hK; clear hK)
      | (apply WC_block)
      | (apply WC_region)
      | (apply WL_nil)
      | (apply thenQ_normal)
      | (apply WL_on0; eq_refl)
      | (apply X_pv; eq_refl; first | exact trivial | omega))
    · refine WC_loop (fun q : Nat × Bool => [(1, pt w.heap.size), (4, nu k), (5, pt b5), (7, .bool q.2), (8, nu q.1)])
        (fun q W => W = w2 ∧ q.1 ≤ s.name.size ∧ (q.2 = true → ok0 = true ∧ ∀ i, i < q.1 → ¬ byteAt s.name i < 32) ∧ (q.2 = false → ok0 = false ∨ lowName s.name)) (fun q => s.name.size - q.1) (0, ok0) ⟨rfl, rfl, rfl, rfl, rfl, trivial⟩ ⟨rfl, Nat.zero_le _, fun h => ⟨h, fun i hi => absurd hi (Nat.not_lt_zero _)⟩, fun h => .inl h⟩ ?_
      rintro ⟨j, ok⟩ w3 ⟨rfl, hj, hT, hF⟩
      simp only at hj hT hF
      cases ok with
      | false =>
        have e1 : false = ok1 := (Bool.eq_false_iff.2 fun hh => by
          obtain ⟨h1, h2⟩ := hok1.1 hh
          rcases hF rfl with g | g
          · rw [g] at h1; cases h1
          · exact h2 g).symm
        repeat' (first
      | (apply WC_seqK; intro K hK)
      | (apply hK; clear hK)
      | (apply WC_region)
      | (apply WL_nil)
      | (apply thenQ_normal)
      | (apply thenQ_exit)
      | (apply blockQ_hit)
      | (apply WC_exit)
      | (apply WC_if_false; eq_refl)
      | (apply WL_on0; eq_refl)
      | (apply WL_noG; eq_refl; eq_refl; eq_refl; eq_refl)
      | (apply X_pv; eq_refl; first | exact trivial | omega))
        exact ⟨rfl, ⟨rfl, rfl, rfl, congrArg (fun z => some (Value.bool z)) e1, trivial⟩, rfl⟩
      | true =>
        obtain ⟨hT1, hT2⟩ := hT rfl
        rcases Nat.lt_or_ge j s.name.size with hjl | hjg
        · repeat' (first
      | (apply X_idxS; eq_refl; eq_refl; omega)
      | (apply WC_seqK; intro K hK)
      | (apply hK; clear hK)
      | (apply WC_block)
      | (apply WC_region)
      | (apply WL_nil)
      | (apply thenQ_normal)
      | (apply blockQ_normal)
      | (apply WC_skip)
      | (apply WC_if_true; eq_refl)
      | (apply WL_on0; eq_refl)
      | (apply WL_onG; eq_refl; eq_refl; eq_refl; eq_refl)
      | (apply X_pv; eq_refl; first | exact trivial | omega)
      | (apply X_field; eq_refl)
      | (apply X_loadR; eq_refl; (first | assumption | (apply Blk.alloc; assumption) | apply Blk.new | apply Blk.newA | (apply Blk.alloc; first | apply Blk.newA | (apply Blk.alloc; first | assumption | apply Blk.newA))); eq_refl)
      | (apply X_cmpT; eq_refl; eq_refl; omega)
      | (apply X_cmp; eq_refl; eq_refl; all_goals intro _)
      | (apply X_lenS; eq_refl))
          · rename_i hb9
            have hb9 : 32 ≤ byteAt s.name j := hb9
            exact ⟨(j + 1, true), ⟨rfl, rfl, rfl, rfl, rfl, trivial⟩, ⟨rfl, hjl, fun _ => ⟨hT1, fun i hi => by
              rcases Nat.lt_or_ge i j with hh | hh
              · exact hT2 i hh
              · obtain rfl : i = j := by omega
                omega⟩, fun h => (by cases h)⟩, by simp only; omega⟩
          · rename_i hb9
            have hb9 : ¬ 32 ≤ byteAt s.name j := hb9
            exact ⟨(j + 1, false), ⟨rfl, rfl, rfl, rfl, rfl, trivial⟩, ⟨rfl, hjl, fun h => (by cases h), fun _ => .inr ⟨j, hjl, by omega⟩⟩, by simp only; omega⟩
        · have e1 : true = ok1 := (hok1.2 ⟨hT1, fun ⟨i, hi, hb⟩ => hT2 i (by omega) hb⟩).symm
          repeat' (first
      | (apply WC_seqK; intro K hK)
      | (apply hK; clear hK)
      | (apply WC_region)
      | (apply WL_nil)
      | (apply thenQ_normal)
      | (apply thenQ_exit)
      | (apply blockQ_hit)
      | (apply WC_exit)
      | (apply WC_if_false; eq_refl)
      | (apply WL_on0; eq_refl)
      | (apply WL_onG; eq_refl; eq_refl; eq_refl; eq_refl)
      | (apply X_pv; eq_refl; first | exact trivial | omega)
      | (apply X_field; eq_refl)
      | (apply X_loadR; eq_refl; (first | assumption | (apply Blk.alloc; assumption) | apply Blk.new | apply Blk.newA | (apply Blk.alloc; first | apply Blk.newA | (apply Blk.alloc; first | assumption | apply Blk.newA))); eq_refl)
      | (apply X_cmpF; eq_refl; eq_refl; omega)
      | (apply X_lenS; eq_refl))
          exact ⟨rfl, ⟨rfl, rfl, rfl, congrArg (fun z => some (Value.bool z)) e1, trivial⟩, rfl⟩
    refine ⟨?_⟩
    rintro _ rfl
    rename_i w2
    obtain ⟨ok2, hok2⟩ : ∃ b : Bool, b = true ↔ (ok1 = true ∧ ∀ q (hq : q < c.symbols.length), q < k → ¬ (c.symbols[q].kind = s.kind ∧ c.symbols[q].at_ = s.at_)) := by classical exact ⟨decide _, decide_eq_true_iff⟩
    repeat' (first
      | (apply WC_midB 5 [(1, pt w.heap.size), (4, nu k), (5, pt b5), (7, .bool ok2)] (fun W => Chg w W none_ ∧ Blk W w.heap.size 51 (ccells c h)))
      | (apply WC_seqK; intro K hK)
      | (apply hK; clear hK)
      | (apply WC_block)
      | (apply WC_region)
      | (apply WL_nil)
      | (apply thenQ_normal)
      | (apply WL_on0; eq_refl)
      | (apply X_pv; eq_refl; first | exact trivial | omega))
    · refine WC_loop (fun q : Nat × Bool => [(1, pt w.heap.size), (4, nu k), (5, pt b5), (7, .bool q.2), (9, nu q.1)])
        (fun q W => (Chg w W none_ ∧ Blk W w.heap.size 51 (ccells c h) ∧ Blk W b5 117 (scells s)) ∧ q.1 ≤ k ∧ (q.2 = true → ok1 = true ∧ ∀ i (hi : i < c.symbols.length), i < q.1 → ¬ (c.symbols[i].kind = s.kind ∧ c.symbols[i].at_ = s.at_)) ∧ (q.2 = false → ok1 = false ∨ ∃ i, ∃ hi : i < c.symbols.length, i < k ∧ c.symbols[i].kind = s.kind ∧ c.symbols[i].at_ = s.at_)) (fun q => k - q.1) (0, ok1) ⟨rfl, rfl, rfl, rfl, rfl, trivial⟩ ⟨⟨hC2, hN2, hS2⟩, Nat.zero_le _, fun h => ⟨h, fun i _ hi => absurd hi (Nat.not_lt_zero _)⟩, fun h => .inl h⟩ ?_
      rintro ⟨j, ok⟩ w3 ⟨⟨hC3, hN3, hS3⟩, hj, hT, hF⟩
      simp only at hj hT hF
      cases ok with
      | false =>
        have e1 : false = ok2 := (Bool.eq_false_iff.2 fun hh => by
          obtain ⟨h1, h2⟩ := hok2.1 hh
          rcases hF rfl with g | ⟨i, hi, g1, g2⟩
          · rw [g] at h1; cases h1
          · exact h2 i hi g1 g2).symm
        repeat' (first
      | (apply WC_seqK; intro K hK)
      | (apply hK; clear hK)
      | (apply WC_region)
      | (apply WL_nil)
      | (apply thenQ_normal)
      | (apply thenQ_exit)
      | (apply blockQ_hit)
      | (apply WC_exit)
      | (apply WC_if_false; eq_refl)
      | (apply WL_on0; eq_refl)
      | (apply WL_noG; eq_refl; eq_refl; eq_refl; eq_refl)
      | (apply X_pv; eq_refl; first | exact trivial | omega))
        exact ⟨rfl, ⟨rfl, rfl, rfl, congrArg (fun z => some (Value.bool z)) e1, trivial⟩, hC3, hN3⟩
      | true =>
        obtain ⟨hT1, hT2⟩ := hT rfl
        rcases Nat.lt_or_ge j k with hjl | hjg
        · have hjs : j < c.symbols.length := by omega
          obtain ⟨p2, hp2, hc2⟩ := H.symbols j hjs
          rw [hp] at hp2
          cases hp2
          have hT3 := hT2
          generalize hy : c.symbols[j] = y at *
          repeat' (first
      | (apply WC_seqK; intro K hK)
      | (apply hK; clear hK)
      | (apply WC_block)
      | (apply WC_region)
      | (apply WL_nil)
      | (apply thenQ_normal)
      | (apply WC_skip)
      | (apply WC_if_true; eq_refl)
      | (apply WL_on0; eq_refl)
      | (apply WL_onG; eq_refl; eq_refl; eq_refl; eq_refl)
      | (apply X_pv; eq_refl; first | exact trivial | omega)
      | (apply X_cmpT; eq_refl; eq_refl; omega))
          refine WC_draws [(0, true), (1, true), (2, true), (3, true), (4, true), (5, true), (6, true), (7, true), (8, true), (9, true), (10, true), (11, true), (12, true), (13, true), (14, true), (15, true), (16, true), (17, true), (18, true), (19, true), (20, true)] (fun W => Chg w W none_ ∧ Blk W w.heap.size 51 (ccells c h) ∧ Blk W b5 117 (scells s)) mixed (by kernel_rfl) (by kernel_rfl) ?_
          have hS : Chg w w3.drew none_ ∧ Blk w3.drew w.heap.size 51 (ccells c h) ∧ Blk w3.drew b5 117 (scells s) := ⟨hC3.dr, hN3, hS3⟩
          by_cases hkk : y.kind = s.kind
          · by_cases haa : y.at_ = s.at_
            · repeat' (first
      | (apply O_loadR; eq_refl; (exact fun _ h => h.2.1); exact e6; assumption)
      | (apply O_loadR; eq_refl; (exact fun _ h => h.2.2); eq_refl; assumption)
      | (apply O_loadC; eq_refl; (exact fun W h => cel_chg (hc2 0 _ rfl) h.1 id); assumption)
      | (apply O_loadC; eq_refl; (exact fun W h => cel_chg (hc2 1 _ rfl) h.1 id); assumption)
      | (apply hK; clear hK)
      | (apply WC_region)
      | (apply WL_nil)
      | (apply thenQ_normal)
      | (apply blockQ_normal)
      | (apply WS_nil)
      | (apply WS_next; eq_refl)
      | (apply WO_on0; eq_refl)
      | (apply WO_onG; eq_refl; eq_refl; eq_refl; eq_refl)
      | (apply O_pv; eq_refl; (first | exact trivial | omega); (first | assumption | exact trivial))
      | (apply O_field; eq_refl; (first | assumption | exact trivial))
      | (apply O_cmpF; eq_refl; eq_refl; omega; (first | assumption | exact trivial))
      | (apply O_indexP; eq_refl; eq_refl; omega; omega; (first | assumption | exact trivial))
      | (apply O_fieldP; eq_refl; (first | assumption | exact trivial))
      | (apply WL_on0; eq_refl)
      | (apply X_pv; eq_refl; first | exact trivial | omega))
              exact ⟨(j + 1, false), ⟨rfl, rfl, rfl, rfl, rfl, trivial⟩, ⟨hS, hjl, fun h => (by cases h), fun _ => .inr ⟨j, hjs, hjl, by rw [hy]; exact ⟨hkk, haa⟩⟩⟩, by simp only; omega⟩
            · repeat' (first
      | (apply O_loadR; eq_refl; (exact fun _ h => h.2.1); exact e6; assumption)
      | (apply O_loadR; eq_refl; (exact fun _ h => h.2.2); eq_refl; assumption)
      | (apply O_loadC; eq_refl; (exact fun W h => cel_chg (hc2 0 _ rfl) h.1 id); assumption)
      | (apply O_loadC; eq_refl; (exact fun W h => cel_chg (hc2 1 _ rfl) h.1 id); assumption)
      | (apply hK; clear hK)
      | (apply WC_region)
      | (apply WL_nil)
      | (apply thenQ_normal)
      | (apply blockQ_normal)
      | (apply WS_nil)
      | (apply WS_next; eq_refl)
      | (apply WO_on0; eq_refl)
      | (apply WO_onG; eq_refl; eq_refl; eq_refl; eq_refl)
      | (apply O_pv; eq_refl; (first | exact trivial | omega); (first | assumption | exact trivial))
      | (apply O_field; eq_refl; (first | assumption | exact trivial))
      | (apply O_cmpT; eq_refl; eq_refl; omega; (first | assumption | exact trivial))
      | (apply O_cmpF; eq_refl; eq_refl; omega; (first | assumption | exact trivial))
      | (apply O_indexP; eq_refl; eq_refl; omega; omega; (first | assumption | exact trivial))
      | (apply O_fieldP; eq_refl; (first | assumption | exact trivial))
      | (apply WL_on0; eq_refl)
      | (apply X_pv; eq_refl; first | exact trivial | omega))
              refine ⟨(j + 1, true), ⟨rfl, rfl, rfl, rfl, rfl, trivial⟩, ⟨hS, hjl, fun _ => ⟨hT1, fun i hi hij => ?_⟩, fun h => (by cases h)⟩, by simp only; omega⟩
              rcases Nat.lt_or_ge i j with hh | hh
              · exact hT3 i hi hh
              · obtain rfl : i = j := by omega
                rw [hy]; exact fun hh => haa hh.2
          · repeat' (first
      | (apply O_loadR; eq_refl; (exact fun _ h => h.2.1); exact e6; assumption)
      | (apply O_loadR; eq_refl; (exact fun _ h => h.2.2); eq_refl; assumption)
      | (apply O_loadC; eq_refl; (exact fun W h => cel_chg (hc2 0 _ rfl) h.1 id); assumption)
      | (apply hK; clear hK)
      | (apply WC_region)
      | (apply WL_nil)
      | (apply thenQ_normal)
      | (apply blockQ_normal)
      | (apply WS_nil)
      | (apply WS_next; eq_refl)
      | (apply WO_on0; eq_refl)
      | (apply WO_noG; eq_refl; eq_refl; eq_refl; eq_refl; (first | assumption | exact trivial))
      | (apply O_pv; eq_refl; (first | exact trivial | omega); (first | assumption | exact trivial))
      | (apply O_field; eq_refl; (first | assumption | exact trivial))
      | (apply O_cmpT; eq_refl; eq_refl; omega; (first | assumption | exact trivial))
      | (apply O_indexP; eq_refl; eq_refl; omega; omega; (first | assumption | exact trivial))
      | (apply O_fieldP; eq_refl; (first | assumption | exact trivial))
      | (apply WL_on0; eq_refl)
      | (apply X_pv; eq_refl; first | exact trivial | omega))
            refine ⟨(j + 1, true), ⟨rfl, rfl, rfl, rfl, rfl, trivial⟩, ⟨hS, hjl, fun _ => ⟨hT1, fun i hi hij => ?_⟩, fun h => (by cases h)⟩, by simp only; omega⟩
            rcases Nat.lt_or_ge i j with hh | hh
            · exact hT3 i hi hh
            · obtain rfl : i = j := by omega
              rw [hy]; exact fun hh => hkk hh.1
        · have e1 : true = ok2 := (hok2.2 ⟨hT1, fun i hi hik => hT2 i hi (by omega)⟩).symm
          repeat' (first
      | (apply WC_seqK; intro K hK)
      | (apply hK; clear hK)
      | (apply WC_region)
      | (apply WL_nil)
      | (apply thenQ_normal)
      | (apply thenQ_exit)
      | (apply blockQ_hit)
      | (apply WC_exit)
      | (apply WC_if_false; eq_refl)
      | (apply WL_on0; eq_refl)
      | (apply WL_onG; eq_refl; eq_refl; eq_refl; eq_refl)
      | (apply X_pv; eq_refl; first | exact trivial | omega)
      | (apply X_cmpF; eq_refl; eq_refl; omega))
          exact ⟨rfl, ⟨rfl, rfl, rfl, congrArg (fun z => some (Value.bool z)) e1, trivial⟩, hC3, hN3⟩
    refine ⟨?_⟩
    rintro w4 ⟨hC4, hN4⟩
    have hsb : ok2 = true ↔ ¬ symBad c f s := by
      rw [hok2, hok1, hok0]
      have hsz : s.name = ByteArray.empty ↔ s.name.size = 0 := ⟨fun h => by rw [h]; rfl, fun h => ByteArray.size_eq_zero_iff.1 h⟩
      have hff : 0 < f s.kind s.at_ ↔ ∃ q, ∃ hq : q < c.symbols.length, q < k ∧ c.symbols[q].kind = s.kind ∧ c.symbols[q].at_ = s.at_ := (hf _ _).2
      unfold symBad
      rw [hM, hff, hsz]
      constructor
      · rintro ⟨⟨⟨h1, h2, h3, h4⟩, h5⟩, h6⟩ (g | g | g | g | ⟨q, hq, g1, g2⟩ | g)
        · omega
        · omega
        · omega
        · omega
        · exact h6 q hq g1 g2
        · exact h5 g
      · intro hb
        refine ⟨⟨⟨?_, ?_, ?_, ?_⟩, fun g => hb (.inr (.inr (.inr (.inr (.inr g)))))⟩, fun q hq g1 g2 => hb (.inr (.inr (.inr (.inr (.inl ⟨q, hq, g1, g2⟩)))))⟩
        · exact Int.not_lt.1 fun g => hb (.inl g)
        · exact Int.not_le.1 fun g => hb (.inr (.inl g))
        · exact Nat.pos_of_ne_zero fun g => hb (.inr (.inr (.inl g)))
        · exact Nat.not_lt.1 fun g => hb (.inr (.inr (.inr (.inl g))))
    cases ok2 with
    | false =>
      have hb : symBad c f s := Classical.byContradiction fun g => by have := hsb.2 g; cases this
      rw [hbad hb] at hgo
      repeat' (first
      | (apply WC_seqK; intro K hK)
      | (apply hK; clear hK)
      | (apply WC_region)
      | (apply WL_nil)
      | (apply thenQ_normal)
      | (apply thenQ_ret)
      | (apply blockQ_ret)
      | (apply WC_ret)
      | (apply WC_if_true; eq_refl)
      | (apply ret2; eq_refl; eq_refl)
      | (apply WL_on0; eq_refl)
      | (apply X_pv; eq_refl; first | exact trivial | omega))
      refine ⟨?_, hC4⟩
      first | rw [if_pos (by omega), if_pos (by omega), hgo] | rw [hr, if_pos (by omega), if_pos (by omega), hgo]
    | true =>
      rw [hokk (hsb.1 rfl)] at hgo
      repeat' (first
      | (apply WC_seqK; intro K hK)
      | (apply hK; clear hK)
      | (apply WC_region)
      | (apply WL_nil)
      | (apply thenQ_normal)
      | (apply blockQ_normal)
      | (apply WC_skip)
      | (apply WC_if_false; eq_refl)
      | (apply WL_on0; eq_refl)
      | (apply X_pv; eq_refl; first | exact trivial | omega))
      exact ⟨(k + 1, _), ⟨rfl, rfl, trivial⟩, ⟨hC4, hN4, hfn, hlt, hgo⟩, by simp only; omega⟩
  · rw [List.drop_eq_nil_of_le hge] at hgo
    have e : r = -1 := hgo.symm
    repeat' (first
      | (apply WC_seqK; intro K hK)
      | (apply hK; clear hK)
      | (clear hK; apply hK; clear hK)
      | (apply WC_region)
      | (apply WL_nil)
      | (apply thenQ_normal)
      | (apply thenQ_exit)
      | (apply blockQ_hit)
      | (apply WC_ret)
      | (apply WC_exit)
      | (apply WC_if_false; eq_refl)
      | (apply ret2; eq_refl; eq_refl)
      | (apply WL_on0; eq_refl)
      | (apply X_pv; eq_refl; first | exact trivial | omega)
      | (apply X_field; eq_refl)
      | (apply X_loadR; eq_refl; (first | assumption | (apply Blk.alloc; assumption) | apply Blk.new | apply Blk.newA | (apply Blk.alloc; first | apply Blk.newA | (apply Blk.alloc; first | assumption | apply Blk.newA))); eq_refl)
      | (apply X_cmpF; eq_refl; eq_refl; omega)
      | (apply X_len; eq_refl))
    exact ⟨by rw [hr, e, if_neg (by decide), if_neg (by decide)], hC1⟩
end SC
end Go.Proofs.Ytkndegjodnciaaa
end
section
/- trestleref03: Check. -/
set_option linter.unusedVariables false
set_option linter.unusedSimpArgs false
namespace Go.Proofs.Ytkndegjodnciaaa
namespace SC
open Go.Proofs
theorem mem_bytesI {s : ByteArray} {x : Int} : x ∈ bytesI s ↔ ∃ k, k < s.size ∧ byteAt s k = x := by
  have hl : (bytesI s).length = s.size := bytesI_len s
  have hb : ∀ k, byteAt s k = (bytesI s).getD k 0 := fun k => rfl
  constructor
  · intro h
    obtain ⟨k, hk, rfl⟩ := List.mem_iff_getElem.1 h
    exact ⟨k, by omega, by rw [hb]; simp [hk]⟩
  · rintro ⟨k, hk, rfl⟩
    have hk' : k < (bytesI s).length := by omega
    rw [hb, List.getD_eq_getElem?_getD, List.getElem?_eq_getElem hk']
    exact List.getElem_mem hk'
attribute [local irreducible] WC WL WX WS WO OX Does DoesU Enters CV Pure thenQ blockQ retQ Wants retQC
set_option maxRecDepth 100000
theorem checkRef_cv {w : World} {c : Circ} {h js : Hd} (H : CirAt w c h js) (hs : c.Sane) (ho : c.Okay) (hf : c.Fits) : CV Try.prog 25 [.agg (ccells c h).toArray] w fun v w' => v = .tuple #[nu (lookM c).1, nu (lookM c).2] ∧ Chg w w' none_ := by
  have hI0 : Blk (w.alloc (.cells (ccells c h).toArray 51)) w.heap.size 51 (ccells c h) := Blk.new w _ _
  have hC0 := Chg.alloc w (.cells (ccells c h).toArray 51) none_
  have hsz := size_cv (H.chg hC0) hf ho
  refine enter 97 [2, 3] Try.func25 rfl rfl rfl (by decide) rfl ?_
  repeat' (first
      | (apply X_fn; eq_refl; exact hsz; rintro _ w1 ⟨rfl, hC1⟩; have hI1 := hI0.chg hC1 id; have hC1' := hC0.trans hC1 fun _ _ h => h)
      | (apply WC_seqK; intro K hK)
      | (apply hK; clear hK)
      | (apply WC_region)
      | (apply WL_nil)
      | (apply thenQ_normal)
      | (apply thenQ_ret)
      | (apply WC_ret)
      | (apply WC_skip)
      | (apply WC_if_true; eq_refl)
      | (apply WC_if_false; eq_refl)
      | (apply ret2; eq_refl; eq_refl)
      | (apply WL_on0; eq_refl)
      | (apply X_pv; eq_refl; first | exact trivial | omega)
      | (apply X_loadW; eq_refl; (first | assumption | (apply Blk.alloc; assumption) | apply Blk.new | apply Blk.newA | (apply Blk.alloc; first | apply Blk.newA | (apply Blk.alloc; first | assumption | apply Blk.newA))); eq_refl)
      | (apply X_cmp; eq_refl; eq_refl; all_goals intro _)
      | (apply X_box; eq_refl))
  · exact ⟨by unfold lookM; rw [if_pos (by assumption)], hC1'⟩
  have hz : sizesM c = 0 := Classical.byContradiction (by assumption)
  obtain ⟨hm0, hm1, hln, hsum⟩ := sizesM_ok hz
  have hdf := defined_cv (H.chg hC1') ho ⟨hm0, hm1⟩
  have hl1 : lookM c = if (definesM c (T0 c)).1.2 ≠ 0 then (definesM c (T0 c)).1
    else if (usesM c (tabM c)).2 ≠ 0 then usesM c (tabM c)
    else if 0 ≤ cycM c.ands.length (gateB (tabM c) c) then (cycM c.ands.length (gateB (tabM c) c), 34)
    else if 0 ≤ goSym c c.symbols 0 (fun _ _ => 0) then (goSym c c.symbols 0 (fun _ _ => 0), 35)
    else if 0 ≤ goCom c.comments 0 then (goCom c.comments 0, 36)
    else (0, 0) := by unfold lookM; rw [if_neg (by assumption)]
  repeat' (first
      | (apply X_fn; eq_refl; exact hdf; rintro _ w2 ⟨hC2, ⟨hd, rfl⟩ | ⟨hd, b, n, hb0, hn, hnl, rfl, hB2⟩⟩)
      | (apply WC_seqK; intro K hK)
      | (apply hK; clear hK)
      | (apply WC_region)
      | (apply WL_nil)
      | (apply thenQ_normal)
      | (apply thenQ_ret)
      | (apply WC_ret)
      | (apply WC_skip)
      | (apply WC_if_true; eq_refl)
      | (apply WC_if_false; eq_refl)
      | (apply ret2; eq_refl; eq_refl)
      | (apply WL_on0; eq_refl)
      | (apply X_pv; eq_refl; first | exact trivial | omega)
      | (apply X_cmpT; eq_refl; eq_refl; omega)
      | (apply X_cmpF; eq_refl; eq_refl; omega))
  · exact ⟨by rw [hl1, if_pos hd], hC1'.trans hC2 fun _ _ h => h⟩
  rw [if_neg (fun hh => hh hd)] at hl1
  have hTO : TabOk c (tabM c) := definesM_spec hm0 hd
  have hC2' := hC1'.trans hC2 fun _ _ h => h
  have hI2 := hI1.chg hC2 id
  have hus := uses_cv' (H.chg hC2') ho ⟨hm0, hm1⟩ hB2 (by rw [hnl]; exact hn) hnl.symm
  repeat' (first
      | (apply X_fn; eq_refl; exact hus; rintro _ w3 ⟨rfl, hC3⟩; have hI3 := hI2.chg hC3 id; have hC3' := hC2'.trans hC3 fun _ _ h => h)
      | (apply WC_seqK; intro K hK)
      | (apply hK; clear hK)
      | (apply WC_region)
      | (apply WL_nil)
      | (apply thenQ_normal)
      | (apply thenQ_ret)
      | (apply WC_ret)
      | (apply WC_skip)
      | (apply WC_if_true; eq_refl)
      | (apply WC_if_false; eq_refl)
      | (apply ret2; eq_refl; eq_refl)
      | (apply WL_on0; eq_refl)
      | (apply X_pv; eq_refl; first | exact trivial | omega)
      | (apply X_loadW; eq_refl; (first | assumption | (apply Blk.alloc; assumption) | apply Blk.new | apply Blk.newA | (apply Blk.alloc; first | apply Blk.newA | (apply Blk.alloc; first | assumption | apply Blk.newA))); eq_refl)
      | (apply X_cmp; eq_refl; eq_refl; all_goals intro _))
  · exact ⟨by rw [hl1, if_pos (by assumption)], hC3'⟩
  have hu0 : (usesM c (tabM c)).2 = 0 := Classical.byContradiction (by assumption)
  rw [if_neg (fun hh => hh hu0)] at hl1
  have hUA := usesM_spec.1 hu0
  have hna : c.ands.length ≤ 16384 := by have := hln (c.ands.length : Int) (by simp [Circ.lens]); omega
  have hB := hTO.below hUA
  clear hus hdf hsz hB2
  refine WC_draws [(0, true), (3, true), (4, true), (5, true), (1, false), (2, true), (6, true)] (fun W => Chg w W none_ ∧ Blk W w.heap.size 51 (ccells c h)) mixed (by kernel_rfl) (by kernel_rfl) ?_
  have hS : Chg w w3.drew none_ ∧ Blk w3.drew w.heap.size 51 (ccells c h) := ⟨hC3'.dr, hI3⟩
  have htd := told_cv (H.chg hS.1) hTO hUA ⟨hm0, hm1⟩ hna
  repeat' (first
      | (apply O_loadW; eq_refl; (exact fun _ h => h.2); eq_refl; assumption)
      | (apply O_loadR; eq_refl; (exact fun _ h => h.2); eq_refl; assumption)
      | (apply O_fn; eq_refl; exact htd; rintro v4 w4 ⟨hC4, out, hall, hrow⟩; obtain ⟨A4, cp4, rfl⟩ := row_form' hrow; have hS4 : Chg w w4 none_ ∧ Blk w4 w.heap.size 51 (ccells c h) := ⟨hS.1.trans hC4 fun k hk hh => hh, hS.2.chg hC4 id⟩; have hol := hall.told.size; refine ⟨fun _ => hS4, ?_⟩)
      | (apply WC_seqK; intro K hK)
      | (apply hK; clear hK)
      | (apply WC_region)
      | (apply thenQ_normal)
      | (apply WC_skip)
      | (apply WC_if_true; eq_refl)
      | (apply WC_if_false; eq_refl)
      | (apply WS_nil)
      | (apply WS_next; eq_refl)
      | (apply WO_on0; eq_refl)
      | (apply O_field; eq_refl; (first | assumption | exact trivial))
      | (apply O_cmp; eq_refl; eq_refl; (first | assumption | exact trivial); all_goals intro _)
      | (apply O_len; eq_refl; (first | assumption | exact trivial))
      | (apply WL_on0; eq_refl))
  all_goals obtain ⟨hC4', hI4⟩ := hS4
  · have hlt0 : out.length < c.ands.length := by omega
    have hgt := gates80_cv (H.chg hC4') hTO ⟨hm0, hm1⟩ hna
    repeat' (first
      | (apply X_fn; eq_refl; exact hgt; rintro _ w5 ⟨rfl, hG5, hC5⟩; have hI5 := hI4.chg hC5 id; have hC5' := hC4'.trans hC5 fun _ _ h => h)
      | (apply WC_seqK; intro K hK)
      | (apply hK; clear hK)
      | (apply WC_block)
      | (apply WC_region)
      | (apply WL_nil)
      | (apply thenQ_normal)
      | (apply WL_on0; eq_refl)
      | (apply X_pv; eq_refl; first | exact trivial | omega)
      | (apply X_loadW; eq_refl; (first | assumption | (apply Blk.alloc; assumption) | apply Blk.new | apply Blk.newA | (apply Blk.alloc; first | apply Blk.newA | (apply Blk.alloc; first | assumption | apply Blk.newA))); eq_refl))
    generalize w4.heap.size + 1 = g at *
    refine WC_loop (fun i : Nat => [(1, pt w.heap.size), (10, .slice (some ⟨g, 0, none⟩) (gatesM c).length (gatesM c).length), (11, nu i)])
      (fun i W => Chg w W none_ ∧ Blk W w.heap.size 51 (ccells c h) ∧ Blk W g 3 ((gatesM c).map nu) ∧ i ≤ c.ands.length ∧ ∀ j, rg c.ands.length j → j < (i : Int) → ¬ Hangs (gateB (tabM c) c) j j) (fun i => c.ands.length - i) 0 ⟨rfl, rfl, rfl, trivial⟩ ⟨hC5', hI5, hG5, Nat.zero_le _, fun j hj hj2 => by unfold rg at hj; omega⟩ ?_
    clear hC5' hI5 hG5 hC5 w5
    rintro i w5 ⟨hC5, hI5, hG5, hi, hno⟩
    rcases Nat.lt_or_ge i c.ands.length with hlt | hge
    · have hri : rg c.ands.length (i : Int) := ⟨by omega, by omega⟩
      have hrd := round_cv (H.chg hC5) hG5 hTO hUA ⟨hm0, hm1⟩ hna hri
      repeat' (first
      | (apply X_fn; eq_refl; exact hrd; rintro _ w6 ⟨b, rfl, hb6, hC6⟩; have hI6 := hI5.chg hC6 id; have hC6' := hC5.trans hC6 fun _ _ h => h; cases b)
      | (apply WC_seqK; intro K hK)
      | (apply hK; clear hK)
      | (apply WC_block)
      | (apply WC_region)
      | (apply WL_nil)
      | (apply thenQ_normal)
      | (apply thenQ_ret)
      | (apply blockQ_ret)
      | (apply blockQ_normal)
      | (apply WC_ret)
      | (apply WC_skip)
      | (apply WC_if_true; eq_refl)
      | (apply WC_if_false; eq_refl)
      | (apply ret2; eq_refl; eq_refl)
      | (apply WL_on0; eq_refl)
      | (apply X_pv; eq_refl; first | exact trivial | omega)
      | (apply X_field; eq_refl)
      | (apply X_loadR; eq_refl; (first | assumption | (apply Blk.alloc; assumption) | apply Blk.new | apply Blk.newA | (apply Blk.alloc; first | apply Blk.newA | (apply Blk.alloc; first | assumption | apply Blk.newA))); eq_refl)
      | (apply X_loadW; eq_refl; (first | assumption | (apply Blk.alloc; assumption) | apply Blk.new | apply Blk.newA | (apply Blk.alloc; first | apply Blk.newA | (apply Blk.alloc; first | assumption | apply Blk.newA))); eq_refl)
      | (apply X_cmpT; eq_refl; eq_refl; omega)
      | (apply X_len; eq_refl))
      · refine ⟨i + 1, ⟨rfl, rfl, rfl, trivial⟩, ⟨hC6', hI6, hG5.chg hC6 id, hlt, fun j hj hji hh => ?_⟩, by omega⟩
        rcases Int.lt_or_le j (i : Int) with h1 | h1
        · exact hno j hj h1 hh
        · have : j = i := by omega
          subst this
          have := hb6.2 hh
          cases this
      · have hcy : CycOf c.ands.length (gateB (tabM c) c) (i : Int) := ⟨out, hall, .inr ⟨hlt0, hri, hb6.1 rfl, hno⟩⟩
        rw [cycM_eq hcy, if_pos (by omega)] at hl1
        exact ⟨by rw [hl1], hC6'⟩
    · obtain ⟨j, hj, hh⟩ := hall.round hB hlt0
      exact absurd hh (hno j hj (by unfold rg at hj; omega))
  have hcy : CycOf c.ands.length (gateB (tabM c) c) (-1) := ⟨out, hall, .inl ⟨by omega, rfl⟩⟩
  rw [cycM_eq hcy, if_neg (by decide)] at hl1
  have hsy := symbols82_cv (H.chg hC4') hs
  by_cases hgs : 0 ≤ goSym c c.symbols 0 fun _ _ => 0
  · rw [if_pos hgs, if_pos hgs] at hsy
    rw [if_pos hgs] at hl1
    repeat' (first
      | (apply X_fn; eq_refl; exact hsy; rintro _ w5 ⟨rfl, hC5⟩)
      | (apply WC_seqK; intro K hK)
      | (apply hK; clear hK)
      | (apply WC_region)
      | (apply WL_nil)
      | (apply thenQ_normal)
      | (apply thenQ_ret)
      | (apply WC_ret)
      | (apply WC_if_true; eq_refl)
      | (apply ret2; eq_refl; eq_refl)
      | (apply WL_on0; eq_refl)
      | (apply X_pv; eq_refl; first | exact trivial | omega)
      | (apply X_loadW; eq_refl; (first | assumption | (apply Blk.alloc; assumption) | apply Blk.new | apply Blk.newA | (apply Blk.alloc; first | apply Blk.newA | (apply Blk.alloc; first | assumption | apply Blk.newA))); eq_refl)
      | (apply X_cmpT; eq_refl; eq_refl; omega))
    exact ⟨by rw [hl1], hC4'.trans hC5 fun _ _ h => h⟩
  rw [if_neg hgs, if_neg hgs] at hsy
  rw [if_neg hgs] at hl1
  repeat' (first
      | (apply X_fn; eq_refl; exact hsy; rintro _ w5 ⟨rfl, hC5⟩; have hI5 := hI4.chg hC5 id; have hC5' := hC4'.trans hC5 fun _ _ h => h)
      | (apply WC_seqK; intro K hK)
      | (apply hK; clear hK)
      | (apply WC_block)
      | (apply WC_region)
      | (apply WL_nil)
      | (apply thenQ_normal)
      | (apply WC_skip)
      | (apply WC_if_false; eq_refl)
      | (apply WL_on0; eq_refl)
      | (apply X_pv; eq_refl; first | exact trivial | omega)
      | (apply X_loadW; eq_refl; (first | assumption | (apply Blk.alloc; assumption) | apply Blk.new | apply Blk.newA | (apply Blk.alloc; first | apply Blk.newA | (apply Blk.alloc; first | assumption | apply Blk.newA))); eq_refl)
      | (apply X_cmpF; eq_refl; eq_refl; omega))
  have hkl := hs.lens.2.2.2.2.2.2.2.2.2
  have htx := hs.texts
  refine WC_loop (fun i : Nat => [(1, pt w.heap.size), (14, nu i)]) (fun i W => Chg w W none_ ∧ Blk W w.heap.size 51 (ccells c h) ∧ i ≤ c.comments.length ∧ goCom (c.comments.drop i) i = goCom c.comments 0) (fun i => c.comments.length - i) 0 ⟨rfl, rfl, trivial⟩ ⟨hC5', hI5, Nat.zero_le _, rfl⟩ ?_
  clear hsy hC5' hI5 hC5 w5
  rintro i w5 ⟨hC5, hI5, hi, hgo⟩
  rcases Nat.lt_or_ge i c.comments.length with hlt | hge
  · obtain ⟨p, hp, hpc⟩ := (H.chg hC5).comments.one hlt (v := .string c.comments[i]) rfl
    rw [goCom_step hlt] at hgo
    have htl := htx _ (List.getElem_mem hlt)
    generalize hx : c.comments[i] = s at *
    have e6 : (ccells c h)[0 + 10]? = some (.slice (some p) c.comments.length (h 10).2) := by rw [← hp]; rfl
    repeat' (first
      | (apply WC_seqK; intro K hK)
      | (apply hK; clear hK)
      | (apply WC_block)
      | (apply WC_region)
      | (apply WL_nil)
      | (apply thenQ_normal)
      | (apply WC_skip)
      | (apply WC_if_true; eq_refl)
      | (apply WL_on0; eq_refl)
      | (apply X_pv; eq_refl; first | exact trivial | omega)
      | (apply X_field; eq_refl)
      | (apply X_loadR; eq_refl; (first | assumption | (apply Blk.alloc; assumption) | apply Blk.new | apply Blk.newA | (apply Blk.alloc; first | apply Blk.newA | (apply Blk.alloc; first | assumption | apply Blk.newA))); eq_refl)
      | (apply X_cmpT; eq_refl; eq_refl; omega)
      | (apply X_len; eq_refl))
    refine WC_loop (fun k : Nat => [(1, pt w.heap.size), (14, nu i), (15, nu k)]) (fun k W => W = w5 ∧ k ≤ s.size ∧ ∀ j, j < k → byteAt s j ≠ 10) (fun k => s.size - k) 0 ⟨rfl, rfl, rfl, trivial⟩ ⟨rfl, Nat.zero_le _, fun j hj => absurd hj (Nat.not_lt_zero _)⟩ ?_
    rintro k w6 ⟨rfl, hk, hall10⟩
    rcases Nat.lt_or_ge k s.size with hkl2 | hkg
    · repeat' (first
      | (apply X_loadR; eq_refl; exact hI5; exact e6)
      | (apply X_loadC; eq_refl; exact hpc)
      | (apply X_idxS; eq_refl; eq_refl; omega)
      | (apply WC_seqK; intro K hK)
      | (apply hK; clear hK)
      | (apply WC_block)
      | (apply WC_region)
      | (apply WL_nil)
      | (apply thenQ_normal)
      | (apply thenQ_ret)
      | (apply blockQ_ret)
      | (apply blockQ_normal)
      | (apply WC_ret)
      | (apply WC_skip)
      | (apply WC_if_true; eq_refl)
      | (apply WC_if_false; eq_refl)
      | (apply ret2; eq_refl; eq_refl)
      | (apply WL_on0; eq_refl)
      | (apply X_pv; eq_refl; first | exact trivial | omega)
      | (apply X_field; eq_refl)
      | (apply X_cmpT; eq_refl; eq_refl; omega)
      | (apply X_cmp; eq_refl; eq_refl; all_goals intro _)
      | (apply X_lenS; eq_refl)
      | (apply X_indexP; eq_refl; eq_refl; omega; omega))
      · rw [if_pos (mem_bytesI.2 ⟨k, hkl2, by assumption⟩)] at hgo
        rw [← hgo, if_pos (by omega)] at hl1
        exact ⟨by rw [hl1], hC5⟩
      · exact ⟨k + 1, ⟨rfl, rfl, rfl, trivial⟩, ⟨rfl, hkl2, fun j hj => by
          rcases Nat.lt_or_ge j k with h1 | h1
          · exact hall10 j h1
          · have : j = k := by omega
            subst this
            assumption⟩, by omega⟩
    · rw [if_neg (fun hh => by
        obtain ⟨j, hj, hj2⟩ := mem_bytesI.1 hh
        exact hall10 j (by omega) hj2)] at hgo
      repeat' (first
      | (apply X_loadR; eq_refl; exact hI5; exact e6)
      | (apply X_loadC; eq_refl; exact hpc)
      | (apply WC_seqK; intro K hK)
      | (apply hK; clear hK)
      | (clear hK; apply hK; clear hK)
      | (apply WC_region)
      | (apply WL_nil)
      | (apply thenQ_normal)
      | (apply thenQ_exit)
      | (apply blockQ_hit)
      | (apply blockQ_normal)
      | (apply WC_exit)
      | (apply WC_if_false; eq_refl)
      | (apply WL_on0; eq_refl)
      | (apply X_pv; eq_refl; first | exact trivial | omega)
      | (apply X_field; eq_refl)
      | (apply X_cmpF; eq_refl; eq_refl; omega)
      | (apply X_lenS; eq_refl)
      | (apply X_indexP; eq_refl; eq_refl; omega; omega))
      exact ⟨i + 1, ⟨rfl, rfl, trivial⟩, ⟨hC5, hI5, hlt, hgo⟩, by omega⟩
  · rw [List.drop_eq_nil_of_le hge] at hgo
    rw [← hgo, if_neg (by simp [goCom])] at hl1
    repeat' (first
      | (apply WC_seqK; intro K hK)
      | (apply hK; clear hK)
      | (clear hK; apply hK; clear hK)
      | (apply WC_region)
      | (apply WL_nil)
      | (apply thenQ_normal)
      | (apply thenQ_exit)
      | (apply blockQ_hit)
      | (apply WC_ret)
      | (apply WC_exit)
      | (apply WC_if_false; eq_refl)
      | (apply ret2; eq_refl; eq_refl)
      | (apply WL_on0; eq_refl)
      | (apply X_pv; eq_refl; first | exact trivial | omega)
      | (apply X_field; eq_refl)
      | (apply X_loadR; eq_refl; (first | assumption | (apply Blk.alloc; assumption) | apply Blk.new | apply Blk.newA | (apply Blk.alloc; first | apply Blk.newA | (apply Blk.alloc; first | assumption | apply Blk.newA))); eq_refl)
      | (apply X_cmpF; eq_refl; eq_refl; omega)
      | (apply X_len; eq_refl))
    exact ⟨by rw [hl1], hC5⟩
theorem orderRef_cv {w : World} {c : Circ} {h js : Hd} (H : CirAt w c h js) (hs : c.Sane) (ho : c.Okay) (hf : c.Fits) : CV Try.prog 27 [.agg (ccells c h).toArray] w fun v w' => Chg w w' none_ ∧
    (((lookM c).2 ≠ 0 ∧ v = .tuple #[.slice none 0 0, nu (lookM c).2]) ∨ ((lookM c).2 = 0 ∧ ∃ out u, v = .tuple #[u, nu 0] ∧ All c.ands.length (gateB (tabM c) c) out ∧ w'.ownsRow w.heap.size 3 1 u out.length (out.map nu))) := by
  have hI0 : Blk (w.alloc (.cells (ccells c h).toArray 51)) w.heap.size 51 (ccells c h) := Blk.new w _ _
  have hC := Chg.alloc w (.cells (ccells c h).toArray 51) none_
  have hck := checkRef_cv (H.chg hC) hs ho hf
  refine enter 16 [2, 3] Try.func27 rfl rfl rfl (by decide) rfl ?_
  by_cases he : (lookM c).2 = 0
  · obtain ⟨hle, hsz, hd, hu, _⟩ := lookM_ok he
    obtain ⟨hm0, hm1, hln, hsum⟩ := sizesM_ok hsz
    have hTO : TabOk c (tabM c) := definesM_spec hm0 hd
    have hUA := usesM_spec.1 hu
    have hna : c.ands.length ≤ 16384 := by have := hln (c.ands.length : Int) (by simp [Circ.lens]); omega
    rw [he] at hck
    have htd := fun (W : World) (hW : Chg w W none_) => told_cv (H.chg hW) hTO hUA ⟨hm0, hm1⟩ hna
    repeat' (first
      | (apply X_fn; eq_refl; exact hck; rintro _ w1 ⟨rfl, hC1⟩; have hI1 := hI0.chg hC1 id; have hC1' := hC.trans hC1 fun _ _ h => h)
      | (apply X_fn; eq_refl; exact htd _ hC1'; rintro v2 w2 ⟨hC2, out, hall, hrow⟩)
      | (apply WC_seqK; intro K hK)
      | (apply hK; clear hK)
      | (apply WC_region)
      | (apply WL_nil)
      | (apply thenQ_normal)
      | (apply WC_ret)
      | (apply WC_skip)
      | (apply WC_if_false; eq_refl)
      | (apply ret2; eq_refl; eq_refl)
      | (apply WL_on0; eq_refl)
      | (apply X_pv; eq_refl; first | exact trivial | omega)
      | (apply X_loadW; eq_refl; (first | assumption | (apply Blk.alloc; assumption) | apply Blk.new | apply Blk.newA | (apply Blk.alloc; first | apply Blk.newA | (apply Blk.alloc; first | assumption | apply Blk.newA))); eq_refl)
      | (apply X_cmpF; eq_refl; eq_refl; omega)
      | (apply X_box; eq_refl))
    have hs1 := hC1'.size
    exact ⟨hC1'.trans hC2 fun _ _ h => h, .inr ⟨he, out, v2, rfl, hall, own_mono hrow hs1⟩⟩
  · repeat' (first
      | (apply X_fn; eq_refl; exact hck; rintro _ w1 ⟨rfl, hC1⟩; have hI1 := hI0.chg hC1 id; have hC1' := hC.trans hC1 fun _ _ h => h)
      | (apply WC_seqK; intro K hK)
      | (apply hK; clear hK)
      | (apply WC_region)
      | (apply WL_nil)
      | (apply thenQ_normal)
      | (apply thenQ_ret)
      | (apply WC_ret)
      | (apply WC_if_true; eq_refl)
      | (apply ret2; eq_refl; eq_refl)
      | (apply WL_on0; eq_refl)
      | (apply X_pv; eq_refl; first | exact trivial | omega)
      | (apply X_loadW; eq_refl; (first | assumption | (apply Blk.alloc; assumption) | apply Blk.new | apply Blk.newA | (apply Blk.alloc; first | apply Blk.newA | (apply Blk.alloc; first | assumption | apply Blk.newA))); eq_refl)
      | (apply X_cmpT; eq_refl; eq_refl; omega)
      | (apply X_box; eq_refl))
    exact ⟨hC1', .inl ⟨he, rfl⟩⟩
end SC
end Go.Proofs.Ytkndegjodnciaaa
end
section
/- ShapeChecks: the walk. -/
set_option linter.unusedVariables false
set_option linter.unusedSimpArgs false
namespace Go.Proofs.Ytkndegjodnciaaa
namespace SC
open Go.Proofs
theorem Circ.Fits.lens1 {c : Circ} (hf : c.Fits) : ∀ n ∈ c.lens, n + 1 ≤ 9223372036854775807 := by
  intro n hn
  have h1 := hf.inputs
  have h2 := hf.latches
  have h3 := hf.outputs
  have h4 := hf.bads
  have h5 := hf.constraints
  have h6 := hf.justice
  have h7 := hf.fairness
  have h8 := hf.ands
  have h9 := hf.symbols
  have h10 := hf.comments
  simp only [Circ.lens, List.mem_cons, List.not_mem_nil, or_false] at hn
  rcases hn with rfl | rfl | rfl | rfl | rfl | rfl | rfl | rfl | rfl | rfl <;> omega
attribute [local irreducible] WC WL WX WS WO OX Does DoesU Enters CV Pure thenQ blockQ retQ Wants retQC
set_option maxRecDepth 100000
theorem checks_cv {w : World} {c : Circ} {h js : Hd} (H : CirAt w c h js) (hs : c.Sane) (ho : c.Okay) (hf : c.Fits1) (hn : Nils h js) : CV Try.prog 4 [.agg (ccells c h).toArray] w fun v w' => v = .bool true ∧ Chg w w' none_ := by
  have hI0 : Blk (w.alloc (.cells (ccells c h).toArray 51)) w.heap.size 51 (ccells c h) := Blk.new w _ _
  have hC0 := Chg.alloc w (.cells (ccells c h).toArray 51) none_
  have hnm : ∀ W, CV Try.prog 22 [] W fun v w' => v = .bool true ∧ Chg W w' none_ := fun W => names_cv
  have hwk : ∀ W, CV Try.prog 31 [] W fun v w' => v = .bool true ∧ Chg W w' none_ := fun W => works_cv
  refine enter 63 [2] Try.func4 rfl rfl rfl (by decide) rfl ?_
  repeat' (first
      | (apply X_fn; eq_refl; exact (hnm _); rintro _ w1 ⟨rfl, hC1⟩; have hI1 := hI0.chg hC1 id; have hC1' := hC0.trans hC1 fun _ _ h => h)
      | (apply WC_seqK; intro K hK)
      | (apply hK; clear hK)
      | (apply WC_region)
      | (apply WL_nil)
      | (apply thenQ_normal)
      | (apply WC_skip)
      | (apply WC_if_false; eq_refl)
      | (apply WL_on0; eq_refl)
      | (apply X_pv; eq_refl; first | exact trivial | omega)
      | (apply X_loadW; eq_refl; (first | assumption | (apply Blk.alloc; assumption) | apply Blk.new | apply Blk.newA | (apply Blk.alloc; first | apply Blk.newA | (apply Blk.alloc; first | assumption | apply Blk.newA))); eq_refl)
      | (apply X_box; eq_refl))
  have hld := lendCircuit_cv (H.chg hC1') hf hn
  repeat' (first
      | (apply X_fn; eq_refl; exact hld; rintro _ w2 ⟨h2, js2, rfl, hL2, hC2⟩; have hI2 := hI1.chg hC2 id; have hC2' := hC1'.trans hC2 fun _ _ h => h)
      | (apply WL_on0; eq_refl)
      | (apply X_alloc))
  refine X_doesU (does_storeA (t1 := 51) (vs := ccells c h2) (o := 0) (b := w2.heap.size) (by eq_refl) (by eq_refl) (cs := (Value.agg #[nu 0, .slice none 0 0, .slice none 0 0, .slice none 0 0, .slice none 0 0, .slice none 0 0, .slice none 0 0, .slice none 0 0, .slice none 0 0, .slice none 0 0, .slice none 0 0]).cells.toList) (Blk.newA w2 (Value.agg #[nu 0, .slice none 0 0, .slice none 0 0, .slice none 0 0, .slice none 0 0, .slice none 0 0, .slice none 0 0, .slice none 0 0, .slice none 0 0, .slice none 0 0, .slice none 0 0]).cells 51) rfl (by exact Nat.le_refl 11) (by simp [ccells, Value.oneCell'])) ?_
  have hcc : Chg w2 ((w2.alloc (.cells (Value.agg #[nu 0, .slice none 0 0, .slice none 0 0, .slice none 0 0, .slice none 0 0, .slice none 0 0, .slice none 0 0, .slice none 0 0, .slice none 0 0, .slice none 0 0, .slice none 0 0]).cells 51)).setRow w2.heap.size (ccells c h2).toArray) none_ := (Chg.alloc w2 _ none_).trans (Chg.setRow _ w2.heap.size _ (S := fun k => k = w2.heap.size) rfl) fun k hk h => by omega
  refine WL_turn (fun W => Chg w W none_ ∧ Blk W w.heap.size 51 (ccells c h) ∧ Blk W w2.heap.size 51 (ccells c h2) ∧ CirLent W w1.heap.size c h2 js2) ⟨hC2'.trans hcc fun _ _ h => h, hI2.chg hcc id, (Blk.newA w2 (Value.agg #[nu 0, .slice none 0 0, .slice none 0 0, .slice none 0 0, .slice none 0 0, .slice none 0 0, .slice none 0 0, .slice none 0 0, .slice none 0 0, .slice none 0 0, .slice none 0 0]).cells 51).set (ccells c h2), hL2.chg hcc⟩ ?_
  clear hcc hC2' hI2 hL2 hC2 hld
  generalize w2.heap.size = b3
  generalize w1.heap.size = base
  rintro w3 ⟨hC3, hI3, hJ3, hL3⟩
  have hck := fun (W : World) (hW : Chg w3 W none_) => check_cv (hL3.at.chg hW) hs
  have hcr := fun (W : World) (hW : Chg w3 W none_) => checkRef_cv ((H.chg hC3).chg hW) hs ho hf.toFits
  have hr3 := Chg.refl w3 none_
  repeat' (first
      | (apply X_fn; eq_refl; (exact hck _ (by assumption)); rintro _ w4 ⟨rfl, hC4⟩; have hI4 := hI3.chg hC4 id; have hJ4 := hJ3.chg hC4 id)
      | (apply X_fn; eq_refl; (exact hcr _ hC4); rintro _ w5 ⟨rfl, hC5⟩; have hI5 := hI4.chg hC5 id; have hJ5 := hJ4.chg hC5 id; have hC5' := hC4.trans hC5 fun _ _ h => h)
      | (apply WC_seqK; intro K hK)
      | (apply hK; clear hK)
      | (apply WC_region)
      | (apply WL_nil)
      | (apply thenQ_normal)
      | (apply WL_on0; eq_refl)
      | (apply X_pv; eq_refl; first | exact trivial | omega)
      | (apply X_loadW; eq_refl; (first | assumption | (apply Blk.alloc; assumption) | apply Blk.new | apply Blk.newA | (apply Blk.alloc; first | apply Blk.newA | (apply Blk.alloc; first | assumption | apply Blk.newA))); eq_refl))
  clear hI3 hJ3 hI4 hJ4 hck hcr hC4 hC5 hr3
  have hor := Order_cv (hL3.at.chg hC5') hs
  repeat' (first
      | (apply X_fn; eq_refl; exact hor; rintro v6 w6 ⟨hC6, hv6⟩; have hI6 := hI5.chg hC6 id; have hJ6 := hJ5.chg hC6 id; have hC6' := hC5'.trans hC6 fun _ _ h => h; rcases hv6 with ⟨he, rfl⟩ | ⟨he, ord, u, rfl, hall, hol, hrow⟩)
      | (apply WC_seqK; intro K hK)
      | (apply hK; clear hK)
      | (apply WC_region)
      | (apply WL_nil)
      | (apply thenQ_normal)
      | (apply WL_on0; eq_refl)
      | (apply X_pv; eq_refl; first | exact trivial | omega)
      | (apply X_loadW; eq_refl; (first | assumption | (apply Blk.alloc; assumption) | apply Blk.new | apply Blk.newA | (apply Blk.alloc; first | apply Blk.newA | (apply Blk.alloc; first | assumption | apply Blk.newA))); eq_refl))
  all_goals have horr := orderRef_cv ((H.chg hC3).chg hC6') hs ho hf.toFits
  · repeat' (first
      | (apply X_fn; eq_refl; exact horr; rintro v7 w7 ⟨hC7, ⟨he7, rfl⟩ | ⟨he7, _⟩⟩; rotate_left; exact absurd he7 he; have hI7 := hI6.chg hC7 id; have hJ7 := hJ6.chg hC7 id; have hC7' := hC6'.trans hC7 fun _ _ h => h)
      | (apply WC_seqK; intro K hK)
      | (apply hK; clear hK)
      | (apply WC_region)
      | (apply WL_nil)
      | (apply thenQ_normal)
      | (apply WL_on0; eq_refl)
      | (apply WL_onG; eq_refl; eq_refl; eq_refl; eq_refl)
      | (apply X_pv; eq_refl; first | exact trivial | omega)
      | (apply X_cmpF; eq_refl; eq_refl; omega))
    have hsi := sameInts_cv (A := none) (B := none) (c := 0) (d := 0) (l := []) (m := []) (w := w7) (fun k hk => absurd hk (Nat.not_lt_zero _)) (fun k hk => absurd hk (Nat.not_lt_zero _)) (by decide) (by decide)
    repeat' (first
      | (apply X_fn; eq_refl; exact hsi; rintro v8 w8 ⟨rfl, hC8⟩; have hI8 := hI7.chg hC8 id; have hJ8 := hJ7.chg hC8 id; have hC8' := hC7'.trans hC8 fun _ _ h => h)
      | (apply X_fn; eq_refl; exact spoilNil_cv (w := w8); intro v9 w9 hC9; have hI9 := hI8.chg hC9 id; have hJ9 := hJ8.chg hC9 id; have hC9' := hC8'.trans hC9 fun _ _ h => h)
      | (apply WC_seqK; intro K hK)
      | (apply hK; clear hK)
      | (apply WC_region)
      | (apply WL_nil)
      | (apply thenQ_normal)
      | (apply WC_skip)
      | (apply WC_if_false; eq_refl)
      | (apply WL_on0; eq_refl)
      | (apply WL_onG; eq_refl; eq_refl; eq_refl; eq_refl)
      | (apply X_pv; eq_refl; first | exact trivial | omega)
      | (apply X_loadW; eq_refl; (first | assumption | (apply Blk.alloc; assumption) | apply Blk.new | apply Blk.newA | (apply Blk.alloc; first | apply Blk.newA | (apply Blk.alloc; first | assumption | apply Blk.newA))); eq_refl)
      | (apply X_cmpF; eq_refl; eq_refl; omega))
    have hkc := keptCircuit_cv (hL3.chg hC9') ((H.chg hC3).chg hC9') ho hf.lens1
    repeat' (first
      | (apply X_fn; eq_refl; exact hkc; rintro _ w10 ⟨rfl, hC10⟩)
      | (apply X_fn; eq_refl; exact (hwk _); rintro _ w11 ⟨rfl, hC11⟩)
      | (apply hK; clear hK)
      | (apply WL_nil)
      | (apply thenQ_normal)
      | (apply WC_ret)
      | (apply ret1; eq_refl)
      | (apply WL_on0; eq_refl)
      | (apply WL_onG; eq_refl; eq_refl; eq_refl; eq_refl)
      | (apply X_pv; eq_refl; first | exact trivial | omega))
    exact ⟨rfl, ((hC3.trans hC9' fun _ _ h => h).trans hC10 fun _ _ h => h).trans hC11 fun _ _ h => h⟩
  · obtain ⟨Au, cu, rfl⟩ := row_form' hrow
    repeat' (first
      | (apply X_fn; eq_refl; exact horr; rintro v7 w7 ⟨hC7, ⟨he7, rfl⟩ | ⟨he7, out, u, rfl, hall7, hrow7⟩⟩; exact absurd he he7; obtain ⟨Ay, cy, rfl⟩ := row_form' hrow7; have hI7 := hI6.chg hC7 id; have hJ7 := hJ6.chg hC7 id; have hC7' := hC6'.trans hC7 fun _ _ h => h)
      | (apply WC_seqK; intro K hK)
      | (apply hK; clear hK)
      | (apply WC_region)
      | (apply WL_nil)
      | (apply thenQ_normal)
      | (apply WL_on0; eq_refl)
      | (apply WL_onG; eq_refl; eq_refl; eq_refl; eq_refl)
      | (apply X_pv; eq_refl; first | exact trivial | omega)
      | (apply X_cmpF; eq_refl; eq_refl; omega))
    obtain rfl := hall7.only hall
    have hnat := hall.told.size
    have hfl := hf.lens1
    have hna : c.ands.length + 1 ≤ 9223372036854775807 := by have := hfl (c.ands.length : Int) (by simp [Circ.lens]); omega
    have hrow' := own_chg hrow hC7 fun _ _ => id
    have hsi := sameInts_cv (c := cu) (d := cy) (rowI hrow') (rowI hrow7) (by omega) (by omega)
    rw [decide_eq_true rfl] at hsi
    have hlt5 : ∀ k, (Value.slice Au out.length cu).ownBlock = some k → w5.heap.size ≤ k := fun k hk => (hrow.lt k hk).1
    have hs5 := hC5'.size
    have hlJ := hJ5.lt
    have hlI := hI5.lt
    repeat' (first
      | (apply X_fn; eq_refl; exact hsi; rintro v8 w8 ⟨rfl, hC8⟩; have hI8 := hI7.chg hC8 id; have hJ8 := hJ7.chg hC8 id; have hC8' := hC7'.trans hC8 fun _ _ h => h)
      | (apply X_fn; eq_refl; exact spoil_cv (own_chg hrow' hC8 fun _ _ => id); intro v9 w9 hC9; have hI9 := hI8.chg hC9 (fun hh => by have := hlt5 _ hh; omega); have hJ9 := hJ8.chg hC9 (fun hh => by have := hlt5 _ hh; omega); have hC9' : Chg w3 w9 none_ := hC8'.trans hC9 fun k hk hh => by have := hlt5 _ hh; omega)
      | (apply WC_seqK; intro K hK)
      | (apply hK; clear hK)
      | (apply WC_region)
      | (apply WL_nil)
      | (apply thenQ_normal)
      | (apply WC_skip)
      | (apply WC_if_false; eq_refl)
      | (apply WL_on0; eq_refl)
      | (apply WL_onG; eq_refl; eq_refl; eq_refl; eq_refl)
      | (apply X_pv; eq_refl; first | exact trivial | omega)
      | (apply X_loadW; eq_refl; (first | assumption | (apply Blk.alloc; assumption) | apply Blk.new | apply Blk.newA | (apply Blk.alloc; first | apply Blk.newA | (apply Blk.alloc; first | assumption | apply Blk.newA))); eq_refl)
      | (apply X_cmpF; eq_refl; eq_refl; omega))
    have hkc := keptCircuit_cv (hL3.chg hC9') ((H.chg hC3).chg hC9') ho hf.lens1
    repeat' (first
      | (apply X_fn; eq_refl; exact hkc; rintro _ w10 ⟨rfl, hC10⟩)
      | (apply X_fn; eq_refl; exact (hwk _); rintro _ w11 ⟨rfl, hC11⟩)
      | (apply hK; clear hK)
      | (apply WL_nil)
      | (apply thenQ_normal)
      | (apply WC_ret)
      | (apply ret1; eq_refl)
      | (apply WL_on0; eq_refl)
      | (apply WL_onG; eq_refl; eq_refl; eq_refl; eq_refl)
      | (apply X_pv; eq_refl; first | exact trivial | omega))
    exact ⟨rfl, ((hC3.trans hC9' fun _ _ h => h).trans hC10 fun _ _ h => h).trans hC11 fun _ _ h => h⟩
end SC
end Go.Proofs.Ytkndegjodnciaaa
end
