/- Texts of this seat, one behind the other: L8 L9 L10 M1 M2 M3 M4 M5. -/
import Derived.Test.YtkndegjodnciaaaQ4
section
/- trestleref03: symbols. -/
set_option linter.unusedVariables false
set_option linter.unusedSimpArgs false
namespace Go.Proofs.Ytkndegjodnciaaa
namespace SC
open Go.Proofs
/-- What is to be shown later: stepping words stop here. -/
structure Later (p : Prop) : Prop where
  get : p
section
variable {P : Program} {n : Nat} {x y r b : Code} {Q : Post} {e : Env} {w : World}
theorem WC_mid (e1 : Env) (I : World → Prop) (h1 : WC P n x (fun s e' w' => s = .normal ∧ Sub e1 e' ∧ I w') e w) (h2 : Later (∀ w', I w' → WC P n y Q e1 w')) : WC P n (.seq x y) Q e w :=
  WC_seq (h1.mono fun s e' w' ⟨hs, hsub, hI⟩ => by subst hs; exact (h2.get w' hI).weaken hsub)
theorem WC_midB (i : Nat) (e1 : Env) (I : World → Prop) (h1 : WC P n (.seq r (.block i b)) (fun s e' w' => s = .normal ∧ Sub e1 e' ∧ I w') e w) (h2 : Later (∀ w', I w' → WC P n y Q e1 w')) : WC P n (.seq (.seq r (.block i b)) y) Q e w := WC_mid e1 I h1 h2
theorem WC_midR (i : Nat) {l : Array Oper} {d : Bool} (e1 : Env) (I : World → Prop) (h1 : WC P n (.region i l d) (fun s e' w' => s = .normal ∧ Sub e1 e' ∧ I w') e w) (h2 : Later (∀ w', I w' → WC P n y Q e1 w')) : WC P n (.seq (.region i l d) y) Q e w := WC_mid e1 I h1 h2
end
/-- How often a thing has a name before. -/
def SymF (ls : List Sym) (i : Nat) (f : Int → Int → Int) : Prop := ∀ p q, 0 ≤ f p q ∧ (0 < f p q ↔ ∃ k, ∃ hk : k < ls.length, k < i ∧ ls[k].kind = p ∧ ls[k].at_ = q)
theorem SymF.next {ls : List Sym} {i : Nat} {f : Int → Int → Int} (h : SymF ls i f) (hi : i < ls.length) : SymF ls (i + 1) (fun p q => if p = ls[i].kind ∧ q = ls[i].at_ then f ls[i].kind ls[i].at_ + 1 else f p q) := fun p q => by
  by_cases hc : p = ls[i].kind ∧ q = ls[i].at_
  · simp only [if_pos hc]
    have := (h ls[i].kind ls[i].at_).1
    exact ⟨by omega, fun _ => ⟨i, hi, by omega, hc.1.symm, hc.2.symm⟩, fun _ => by omega⟩
  · simp only [if_neg hc]
    refine ⟨(h p q).1, fun hh => ?_, fun ⟨k, hk, hki, h1, h2⟩ => ?_⟩
    · obtain ⟨k, hk, hki, h1, h2⟩ := (h p q).2.1 hh
      exact ⟨k, hk, by omega, h1, h2⟩
    · have : k ≠ i := fun e => by subst e; exact hc ⟨h1.symm, h2.symm⟩
      exact (h p q).2.2 ⟨k, hk, by omega, h1, h2⟩
attribute [local irreducible] WC WL WX WS WO OX Does DoesU Enters CV Pure thenQ blockQ retQ Wants retQC
set_option maxRecDepth 100000
theorem symbols82_cv {w : World} {c : Circ} {h js : Hd} (H : CirAt w c h js) (hs : c.Sane) : CV Try.prog 82 [.agg (ccells c h).toArray] w fun v w' => v = .tuple #[nu (if 0 ≤ goSym c c.symbols 0 fun _ _ => 0 then goSym c c.symbols 0 fun _ _ => 0 else 0), nu (if 0 ≤ goSym c c.symbols 0 fun _ _ => 0 then 35 else 0)] ∧ Chg w w' none_ := by
  have hN : Blk (w.alloc (.cells (ccells c h).toArray 51)) w.heap.size 51 (ccells c h) := Blk.new w _ _
  have hC := Chg.alloc w (.cells (ccells c h).toArray 51) none_
  have hlens := hs.lens
  refine enter 126 [2, 3] Try.func82 rfl rfl rfl (by decide) rfl ?_
  repeat' (first
      | (apply WC_seqK; intro K hK)
      | (apply hK; clear hK)
      | (apply WC_block)
      | (apply WC_region)
      | (apply WL_nil)
      | (apply thenQ_normal)
      | (apply WL_on0; eq_refl)
      | (apply X_pv; eq_refl; first | exact trivial | omega)
      | (apply X_box; eq_refl))
  generalize hr : (goSym c c.symbols 0 fun _ _ => 0) = r
  refine WC_loop (fun s : Nat × (Int → Int → Int) => [(1, pt w.heap.size), (4, nu s.1)])
    (fun s w1 => Chg w w1 none_ ∧ Blk w1 w.heap.size 51 (ccells c h) ∧ SymF c.symbols s.1 s.2 ∧ s.1 ≤ c.symbols.length ∧ goSym c (c.symbols.drop s.1) s.1 s.2 = r) (fun s => c.symbols.length - s.1) (0, fun _ _ => 0) ⟨rfl, rfl, trivial⟩ ⟨hC, hN, fun p q => ⟨Int.le_refl _, fun hh => absurd hh (Int.lt_irrefl 0), fun ⟨k, hk, hki, _⟩ => absurd hki (Nat.not_lt_zero _)⟩, Nat.zero_le _, hr⟩ ?_
  clear hC hN
  rintro ⟨k, f⟩ w1 ⟨hC1, hN1, hf, hk, hgo⟩
  simp only at hf hk hgo
  rcases Nat.lt_or_ge k c.symbols.length with hlt | hge
  · obtain ⟨p, hp, hc⟩ := H.symbols k hlt
    have hbad := fun hb => goSym_bad (c := c) (f := f) hlt hb
    have hokk := fun hb => goSym_ok (c := c) (f := f) hlt hb
    have hfn := hf.next hlt
    have hkind := hs.kinds _ (List.getElem_mem hlt)
    have hnm := hs.names _ (List.getElem_mem hlt)
    generalize hx : c.symbols[k] = s at *
    have e6 : (ccells c h)[0 + 9]? = some (.slice (some p) c.symbols.length (h 9).2) := by rw [← hp]; rfl
    repeat' (first
      | (apply X_loadR; eq_refl; exact hN1; exact e6)
      | (apply X_loadAP (scells s); eq_refl; eq_refl; exact (fun j u hj => cel_chg (hc j u hj) hC1 id))
      | (apply WC_seqK; intro K hK)
      | (apply hK; clear hK)
      | (apply WC_block)
      | (apply WC_region)
      | (apply WL_nil)
      | (apply thenQ_normal)
      | (apply WC_skip)
      | (apply WC_if_true; eq_refl)
      | (apply WL_on0; eq_refl)
      | (apply X_pv; eq_refl; first | exact trivial | omega)
      | (apply X_field; eq_refl)
      | (apply X_cmpT; eq_refl; eq_refl; omega)
      | (apply X_len; eq_refl)
      | (apply X_indexP; eq_refl; eq_refl; omega; omega)
      | (apply X_alloc))
    refine X_doesU (does_storeA (t1 := 117) (vs := scells s) (o := 0) (b := w1.heap.size) (by eq_refl) (by eq_refl) (Blk.newA w1 _ _) rfl (by exact Nat.le_refl 3) (by simp [scells, Value.oneCell'])) ?_
    have hcc : Chg w1 ((w1.alloc (.cells #[.int .u8 0, nu 0, .string ⟨#[]⟩] 117)).setRow w1.heap.size (scells s).toArray) none_ := (Chg.alloc w1 _ none_).trans (Chg.setRow _ w1.heap.size _ (S := fun k => k = w1.heap.size) rfl) fun k hk h => by omega
    refine WL_turn (fun w2 => Chg w w2 none_ ∧ Blk w2 w.heap.size 51 (ccells c h) ∧ Blk w2 w1.heap.size 117 (scells s)) ⟨hC1.trans hcc fun _ _ h => h, hN1.chg hcc id, (Blk.newA w1 _ 117).set (scells s)⟩ ?_
    clear hcc hC1 hN1
    generalize w1.heap.size = b5
    rintro w2 ⟨hC2, hN2, hS2⟩
    repeat' (first
      | (apply WC_midB 2 [(1, pt w.heap.size), (4, nu k), (5, pt b5), (6, nu (manyM c s.kind))] (fun W => W = w2))
      | (apply WC_seqK; intro K hK)
      | (apply hK; clear hK)
      | (apply WC_block)
      | (apply WC_region)
      | (apply WL_nil)
      | (apply thenQ_normal)
      | (apply blockQ_normal)
      | (apply WC_skip)
      | (apply WC_if_true; eq_refl)
      | (apply WC_if_false; eq_refl)
      | (apply WL_on0; eq_refl)
      | (apply X_pv; eq_refl; first | exact trivial | omega)
      | (apply X_field; eq_refl)
      | (apply X_loadR; eq_refl; (first | assumption | (apply Blk.alloc; assumption) | apply Blk.new | apply Blk.newA | (apply Blk.alloc; first | apply Blk.newA | (apply Blk.alloc; first | assumption | apply Blk.newA))); eq_refl)
      | (apply X_cmp; eq_refl; eq_refl; all_goals intro _)
      | (apply X_len; eq_refl))
    any_goals (refine ⟨rfl, ⟨rfl, rfl, rfl, congrArg (fun z => some (nu z)) ?_, trivial⟩, rfl⟩; unfold manyM; repeat (first | rw [if_pos (by assumption)] | rw [if_neg (by assumption)]))
    refine ⟨?_⟩
    rintro _ rfl
    obtain ⟨ok0, hok0⟩ : ∃ b : Bool, b = true ↔ (0 ≤ s.at_ ∧ s.at_ < manyM c s.kind ∧ 1 ≤ s.name.size ∧ s.name.size ≤ 64) := ⟨decide _, decide_eq_true_iff⟩
    generalize hM : manyM c s.kind = M at *
    rename_i w2
    repeat' (first
      | (apply WC_midR 21 [(1, pt w.heap.size), (4, nu k), (5, pt b5), (7, .bool ok0)] (fun W => W = w2))
      | (apply WC_region)
      | (apply WL_nil)
      | (apply WL_on0; eq_refl)
      | (apply WL_onG; eq_refl; eq_refl; eq_refl; eq_refl)
      | (apply WL_noG; eq_refl; eq_refl; eq_refl; eq_refl)
      | (apply X_pv; eq_refl; first | exact trivial | omega)
      | (apply X_field; eq_refl)
      | (apply X_loadR; eq_refl; (first | assumption | (apply Blk.alloc; assumption) | apply Blk.new | apply Blk.newA | (apply Blk.alloc; first | apply Blk.newA | (apply Blk.alloc; first | assumption | apply Blk.newA))); eq_refl)
      | (apply X_cmp; eq_refl; eq_refl; all_goals intro _)
      | (apply X_lenS; eq_refl))
    any_goals (refine ⟨rfl, ⟨rfl, rfl, rfl, congrArg (fun z => some (Value.bool z)) ?_, trivial⟩, rfl⟩; first | (exact (hok0.2 (by omega)).symm) | (exact (Bool.eq_false_iff.2 fun hh => by have := hok0.1 hh; omega).symm))
    refine ⟨?_⟩
    rintro _ rfl
    rename_i w2
    obtain ⟨ok1, hok1⟩ : ∃ b : Bool, b = true ↔ (ok0 = true ∧ ¬ lowName s.name) := by classical exact ⟨decide _, decide_eq_true_iff⟩
    repeat' (first
      | (apply WC_midB 3 [(1, pt w.heap.size), (4, nu k), (5, pt b5), (7, .bool ok1)] (fun W => W = w2))
      | (apply WC_seqK; intro K hK)
      | (apply hK; clear hK)
      | (apply WC_block)
      | (apply WC_region)
      | (apply WL_nil)
      | (apply thenQ_normal)
      | (apply WL_on0; eq_refl)
      | (apply X_pv; eq_refl; first | exact trivial | omega))
    · refine WC_loop (fun q : Nat × Bool => [(1, pt w.heap.size), (4, nu k), (5, pt b5), (7, .bool q.2), (8, nu q.1)])
        (fun q W => W = w2 ∧ q.1 ≤ s.name.size ∧ (q.2 = true → ok0 = true ∧ ∀ i, i < q.1 → ¬ byteAt s.name i < 32) ∧ (q.2 = false → ok0 = false ∨ lowName s.name)) (fun q => s.name.size - q.1) (0, ok0) ⟨rfl, rfl, rfl, rfl, rfl, trivial⟩ ⟨rfl, Nat.zero_le _, fun h => ⟨h, fun i hi => absurd hi (Nat.not_lt_zero _)⟩, fun h => .inl h⟩ ?_
      rintro ⟨j, ok⟩ w3 ⟨rfl, hj, hT, hF⟩
      simp only at hj hT hF
      cases ok with
      | false =>
        have e1 : false = ok1 := (Bool.eq_false_iff.2 fun hh => by
          obtain ⟨h1, h2⟩ := hok1.1 hh
          rcases hF rfl with g | g
          · rw [g] at h1; cases h1
          · exact h2 g).symm
        repeat' (first
      | (apply WC_seqK; intro K hK)
      | (apply hK; clear hK)
      | (apply WC_region)
      | (apply WL_nil)
      | (apply thenQ_normal)
      | (apply thenQ_exit)
      | (apply blockQ_hit)
      | (apply WC_exit)
      | (apply WC_if_false; eq_refl)
      | (apply WL_on0; eq_refl)
      | (apply WL_noG; eq_refl; eq_refl; eq_refl; eq_refl)
      | (apply X_pv; eq_refl; first | exact trivial | omega))
        exact ⟨rfl, ⟨rfl, rfl, rfl, congrArg (fun z => some (Value.bool z)) e1, trivial⟩, rfl⟩
      | true =>
        obtain ⟨hT1, hT2⟩ := hT rfl
        rcases Nat.lt_or_ge j s.name.size with hjl | hjg
        · repeat' (first
      | (apply X_idxS; eq_refl; eq_refl; omega)
      | (apply WC_seqK; intro K hK)
      | (apply hK; clear hK)
      | (apply WC_block)
      | (apply WC_region)
      | (apply WL_nil)
      | (apply thenQ_normal)
      | (apply blockQ_normal)
      | (apply WC_skip)
      | (apply WC_if_true; eq_refl)
      | (apply WL_on0; eq_refl)
      | (apply WL_onG; eq_refl; eq_refl; eq_refl; eq_refl)
      | (apply X_pv; eq_refl; first | exact trivial | omega)
      | (apply X_field; eq_refl)
      | (apply X_loadR; eq_refl; (first | assumption | (apply Blk.alloc; assumption) | apply Blk.new | apply Blk.newA | (apply Blk.alloc; first | apply Blk.newA | (apply Blk.alloc; first | assumption | apply Blk.newA))); eq_refl)
      | (apply X_cmpT; eq_refl; eq_refl; omega)
      | (apply X_cmp; eq_refl; eq_refl; all_goals intro _)
      | (apply X_lenS; eq_refl))
          · rename_i hb9
            have hb9 : 32 ≤ byteAt s.name j := hb9
            exact ⟨(j + 1, true), ⟨rfl, rfl, rfl, rfl, rfl, trivial⟩, ⟨rfl, hjl, fun _ => ⟨hT1, fun i hi => by
              rcases Nat.lt_or_ge i j with hh | hh
              · exact hT2 i hh
              · obtain rfl : i = j := by omega
                omega⟩, fun h => (by cases h)⟩, by simp only; omega⟩
          · rename_i hb9
            have hb9 : ¬ 32 ≤ byteAt s.name j := hb9
            exact ⟨(j + 1, false), ⟨rfl, rfl, rfl, rfl, rfl, trivial⟩, ⟨rfl, hjl, fun h => (by cases h), fun _ => .inr ⟨j, hjl, by omega⟩⟩, by simp only; omega⟩
        · have e1 : true = ok1 := (hok1.2 ⟨hT1, fun ⟨i, hi, hb⟩ => hT2 i (by omega) hb⟩).symm
          repeat' (first
      | (apply WC_seqK; intro K hK)
      | (apply hK; clear hK)
      | (apply WC_region)
      | (apply WL_nil)
      | (apply thenQ_normal)
      | (apply thenQ_exit)
      | (apply blockQ_hit)
      | (apply WC_exit)
      | (apply WC_if_false; eq_refl)
      | (apply WL_on0; eq_refl)
      | (apply WL_onG; eq_refl; eq_refl; eq_refl; eq_refl)
      | (apply X_pv; eq_refl; first | exact trivial | omega)
      | (apply X_field; eq_refl)
      | (apply X_loadR; eq_refl; (first | assumption | (apply Blk.alloc; assumption) | apply Blk.new | apply Blk.newA | (apply Blk.alloc; first | apply Blk.newA | (apply Blk.alloc; first | assumption | apply Blk.newA))); eq_refl)
      | (apply X_cmpF; eq_refl; eq_refl; omega)
      | (apply X_lenS; eq_refl))
          exact ⟨rfl, ⟨rfl, rfl, rfl, congrArg (fun z => some (Value.bool z)) e1, trivial⟩, rfl⟩
    refine ⟨?_⟩
    rintro _ rfl
    rename_i w2
    obtain ⟨ok2, hok2⟩ : ∃ b : Bool, b = true ↔ (ok1 = true ∧ ∀ q (hq : q < c.symbols.length), q < k → ¬ (c.symbols[q].kind = s.kind ∧ c.symbols[q].at_ = s.at_)) := by classical exact ⟨decide _, decide_eq_true_iff⟩
    repeat' (first
      | (apply WC_midB 5 [(1, pt w.heap.size), (4, nu k), (5, pt b5), (7, .bool ok2)] (fun W => Chg w W none_ ∧ Blk W w.heap.size 51 (ccells c h)))
      | (apply WC_seqK; intro K hK)
      | (apply hK; clear hK)
      | (apply WC_block)
      | (apply WC_region)
      | (apply WL_nil)
      | (apply thenQ_normal)
      | (apply WL_on0; eq_refl)
      | (apply X_pv; eq_refl; first | exact trivial | omega))
    · refine WC_loop (fun q : Nat × Bool => [(1, pt w.heap.size), (4, nu k), (5, pt b5), (7, .bool q.2), (9, nu q.1)])
        (fun q W => (Chg w W none_ ∧ Blk W w.heap.size 51 (ccells c h) ∧ Blk W b5 117 (scells s)) ∧ q.1 ≤ k ∧ (q.2 = true → ok1 = true ∧ ∀ i (hi : i < c.symbols.length), i < q.1 → ¬ (c.symbols[i].kind = s.kind ∧ c.symbols[i].at_ = s.at_)) ∧ (q.2 = false → ok1 = false ∨ ∃ i, ∃ hi : i < c.symbols.length, i < k ∧ c.symbols[i].kind = s.kind ∧ c.symbols[i].at_ = s.at_)) (fun q => k - q.1) (0, ok1) ⟨rfl, rfl, rfl, rfl, rfl, trivial⟩ ⟨⟨hC2, hN2, hS2⟩, Nat.zero_le _, fun h => ⟨h, fun i _ hi => absurd hi (Nat.not_lt_zero _)⟩, fun h => .inl h⟩ ?_
      rintro ⟨j, ok⟩ w3 ⟨⟨hC3, hN3, hS3⟩, hj, hT, hF⟩
      simp only at hj hT hF
      cases ok with
      | false =>
        have e1 : false = ok2 := (Bool.eq_false_iff.2 fun hh => by
          obtain ⟨h1, h2⟩ := hok2.1 hh
          rcases hF rfl with g | ⟨i, hi, g1, g2⟩
          · rw [g] at h1; cases h1
          · exact h2 i hi g1 g2).symm
        repeat' (first
      | (apply WC_seqK; intro K hK)
      | (apply hK; clear hK)
      | (apply WC_region)
      | (apply WL_nil)
      | (apply thenQ_normal)
      | (apply thenQ_exit)
      | (apply blockQ_hit)
      | (apply WC_exit)
      | (apply WC_if_false; eq_refl)
      | (apply WL_on0; eq_refl)
      | (apply WL_noG; eq_refl; eq_refl; eq_refl; eq_refl)
      | (apply X_pv; eq_refl; first | exact trivial | omega))
        exact ⟨rfl, ⟨rfl, rfl, rfl, congrArg (fun z => some (Value.bool z)) e1, trivial⟩, hC3, hN3⟩
      | true =>
        obtain ⟨hT1, hT2⟩ := hT rfl
        rcases Nat.lt_or_ge j k with hjl | hjg
        · have hjs : j < c.symbols.length := by omega
          obtain ⟨p2, hp2, hc2⟩ := H.symbols j hjs
          rw [hp] at hp2
          cases hp2
          have hT3 := hT2
          generalize hy : c.symbols[j] = y at *
          repeat' (first
      | (apply WC_seqK; intro K hK)
      | (apply hK; clear hK)
      | (apply WC_block)
      | (apply WC_region)
      | (apply WL_nil)
      | (apply thenQ_normal)
      | (apply WC_skip)
      | (apply WC_if_true; eq_refl)
      | (apply WL_on0; eq_refl)
      | (apply WL_onG; eq_refl; eq_refl; eq_refl; eq_refl)
      | (apply X_pv; eq_refl; first | exact trivial | omega)
      | (apply X_cmpT; eq_refl; eq_refl; omega))
          refine WC_draws [(0, true), (1, true), (2, true), (3, true), (4, true), (5, true), (6, true), (7, true), (8, true), (9, true), (10, true), (11, true), (12, true), (13, true), (14, true), (15, true), (16, true), (17, true), (18, true), (19, true), (20, true)] (fun W => Chg w W none_ ∧ Blk W w.heap.size 51 (ccells c h) ∧ Blk W b5 117 (scells s)) mixed (by kernel_rfl) (by kernel_rfl) ?_
          have hS : Chg w w3.drew none_ ∧ Blk w3.drew w.heap.size 51 (ccells c h) ∧ Blk w3.drew b5 117 (scells s) := ⟨hC3.dr, hN3, hS3⟩
          by_cases hkk : y.kind = s.kind
          · by_cases haa : y.at_ = s.at_
            · repeat' (first
      | (apply O_loadR; eq_refl; (exact fun _ h => h.2.1); exact e6; assumption)
      | (apply O_loadR; eq_refl; (exact fun _ h => h.2.2); eq_refl; assumption)
      | (apply O_loadC; eq_refl; (exact fun W h => cel_chg (hc2 0 _ rfl) h.1 id); assumption)
      | (apply O_loadC; eq_refl; (exact fun W h => cel_chg (hc2 1 _ rfl) h.1 id); assumption)
      | (apply hK; clear hK)
      | (apply WC_region)
      | (apply WL_nil)
      | (apply thenQ_normal)
      | (apply blockQ_normal)
      | (apply WS_nil)
      | (apply WS_next; eq_refl)
      | (apply WO_on0; eq_refl)
      | (apply WO_onG; eq_refl; eq_refl; eq_refl; eq_refl)
      | (apply O_pv; eq_refl; (first | exact trivial | omega); (first | assumption | exact trivial))
      | (apply O_field; eq_refl; (first | assumption | exact trivial))
      | (apply O_cmpF; eq_refl; eq_refl; omega; (first | assumption | exact trivial))
      | (apply O_indexP; eq_refl; eq_refl; omega; omega; (first | assumption | exact trivial))
      | (apply O_fieldP; eq_refl; (first | assumption | exact trivial))
      | (apply WL_on0; eq_refl)
      | (apply X_pv; eq_refl; first | exact trivial | omega))
              exact ⟨(j + 1, false), ⟨rfl, rfl, rfl, rfl, rfl, trivial⟩, ⟨hS, hjl, fun h => (by cases h), fun _ => .inr ⟨j, hjs, hjl, by rw [hy]; exact ⟨hkk, haa⟩⟩⟩, by simp only; omega⟩
            · repeat' (first
      | (apply O_loadR; eq_refl; (exact fun _ h => h.2.1); exact e6; assumption)
      | (apply O_loadR; eq_refl; (exact fun _ h => h.2.2); eq_refl; assumption)
      | (apply O_loadC; eq_refl; (exact fun W h => cel_chg (hc2 0 _ rfl) h.1 id); assumption)
      | (apply O_loadC; eq_refl; (exact fun W h => cel_chg (hc2 1 _ rfl) h.1 id); assumption)
      | (apply hK; clear hK)
      | (apply WC_region)
      | (apply WL_nil)
      | (apply thenQ_normal)
      | (apply blockQ_normal)
      | (apply WS_nil)
      | (apply WS_next; eq_refl)
      | (apply WO_on0; eq_refl)
      | (apply WO_onG; eq_refl; eq_refl; eq_refl; eq_refl)
      | (apply O_pv; eq_refl; (first | exact trivial | omega); (first | assumption | exact trivial))
      | (apply O_field; eq_refl; (first | assumption | exact trivial))
      | (apply O_cmpT; eq_refl; eq_refl; omega; (first | assumption | exact trivial))
      | (apply O_cmpF; eq_refl; eq_refl; omega; (first | assumption | exact trivial))
      | (apply O_indexP; eq_refl; eq_refl; omega; omega; (first | assumption | exact trivial))
      | (apply O_fieldP; eq_refl; (first | assumption | exact trivial))
      | (apply WL_on0; eq_refl)
      | (apply X_pv; eq_refl; first | exact trivial | omega))
              refine ⟨(j + 1, true), ⟨rfl, rfl, rfl, rfl, rfl, trivial⟩, ⟨hS, hjl, fun _ => ⟨hT1, fun i hi hij => ?_⟩, fun h => (by cases h)⟩, by simp only; omega⟩
              rcases Nat.lt_or_ge i j with hh | hh
              · exact hT3 i hi hh
              · obtain rfl : i = j := by omega
                rw [hy]; exact fun hh => haa hh.2
          · repeat' (first
      | (apply O_loadR; eq_refl; (exact fun _ h => h.2.1); exact e6; assumption)
      | (apply O_loadR; eq_refl; (exact fun _ h => h.2.2); eq_refl; assumption)
      | (apply O_loadC; eq_refl; (exact fun W h => cel_chg (hc2 0 _ rfl) h.1 id); assumption)
      | (apply hK; clear hK)
      | (apply WC_region)
      | (apply WL_nil)
      | (apply thenQ_normal)
      | (apply blockQ_normal)
      | (apply WS_nil)
      | (apply WS_next; eq_refl)
      | (apply WO_on0; eq_refl)
      | (apply WO_noG; eq_refl; eq_refl; eq_refl; eq_refl; (first | assumption | exact trivial))
      | (apply O_pv; eq_refl; (first | exact trivial | omega); (first | assumption | exact trivial))
      | (apply O_field; eq_refl; (first | assumption | exact trivial))
      | (apply O_cmpT; eq_refl; eq_refl; omega; (first | assumption | exact trivial))
      | (apply O_indexP; eq_refl; eq_refl; omega; omega; (first | assumption | exact trivial))
      | (apply O_fieldP; eq_refl; (first | assumption | exact trivial))
      | (apply WL_on0; eq_refl)
      | (apply X_pv; eq_refl; first | exact trivial | omega))
            refine ⟨(j + 1, true), ⟨rfl, rfl, rfl, rfl, rfl, trivial⟩, ⟨hS, hjl, fun _ => ⟨hT1, fun i hi hij => ?_⟩, fun h => (by cases h)⟩, by simp only; omega⟩
            rcases Nat.lt_or_ge i j with hh | hh
            · exact hT3 i hi hh
            · obtain rfl : i = j := by omega
              rw [hy]; exact fun hh => hkk hh.1
        · have e1 : true = ok2 := (hok2.2 ⟨hT1, fun i hi hik => hT2 i hi (by omega)⟩).symm
          repeat' (first
      | (apply WC_seqK; intro K hK)
      | (apply hK; clear hK)
      | (apply WC_region)
      | (apply WL_nil)
      | (apply thenQ_normal)
      | (apply thenQ_exit)
      | (apply blockQ_hit)
      | (apply WC_exit)
      | (apply WC_if_false; eq_refl)
      | (apply WL_on0; eq_refl)
      | (apply WL_onG; eq_refl; eq_refl; eq_refl; eq_refl)
      | (apply X_pv; eq_refl; first | exact trivial | omega)
      | (apply X_cmpF; eq_refl; eq_refl; omega))
          exact ⟨rfl, ⟨rfl, rfl, rfl, congrArg (fun z => some (Value.bool z)) e1, trivial⟩, hC3, hN3⟩
    refine ⟨?_⟩
    rintro w4 ⟨hC4, hN4⟩
    have hsb : ok2 = true ↔ ¬ symBad c f s := by
      rw [hok2, hok1, hok0]
      have hsz : s.name = ByteArray.empty ↔ s.name.size = 0 := ⟨fun h => by rw [h]; rfl, fun h => ByteArray.size_eq_zero_iff.1 h⟩
      have hff : 0 < f s.kind s.at_ ↔ ∃ q, ∃ hq : q < c.symbols.length, q < k ∧ c.symbols[q].kind = s.kind ∧ c.symbols[q].at_ = s.at_ := (hf _ _).2
      unfold symBad
      rw [hM, hff, hsz]
      constructor
      · rintro ⟨⟨⟨h1, h2, h3, h4⟩, h5⟩, h6⟩ (g | g | g | g | ⟨q, hq, g1, g2⟩ | g)
        · omega
        · omega
        · omega
        · omega
        · exact h6 q hq g1 g2
        · exact h5 g
      · intro hb
        refine ⟨⟨⟨?_, ?_, ?_, ?_⟩, fun g => hb (.inr (.inr (.inr (.inr (.inr g)))))⟩, fun q hq g1 g2 => hb (.inr (.inr (.inr (.inr (.inl ⟨q, hq, g1, g2⟩)))))⟩
        · exact Int.not_lt.1 fun g => hb (.inl g)
        · exact Int.not_le.1 fun g => hb (.inr (.inl g))
        · exact Nat.pos_of_ne_zero fun g => hb (.inr (.inr (.inl g)))
        · exact Nat.not_lt.1 fun g => hb (.inr (.inr (.inr (.inl g))))
    cases ok2 with
    | false =>
      have hb : symBad c f s := Classical.byContradiction fun g => by have := hsb.2 g; cases this
      rw [hbad hb] at hgo
      repeat' (first
      | (apply WC_seqK; intro K hK)
      | (apply hK; clear hK)
      | (apply WC_region)
      | (apply WL_nil)
      | (apply thenQ_normal)
      | (apply thenQ_ret)
      | (apply blockQ_ret)
      | (apply WC_ret)
      | (apply WC_if_true; eq_refl)
      | (apply ret2; eq_refl; eq_refl)
      | (apply WL_on0; eq_refl)
      | (apply X_pv; eq_refl; first | exact trivial | omega))
      refine ⟨?_, hC4⟩
      first | rw [if_pos (by omega), if_pos (by omega), hgo] | rw [hr, if_pos (by omega), if_pos (by omega), hgo]
    | true =>
      rw [hokk (hsb.1 rfl)] at hgo
      repeat' (first
      | (apply WC_seqK; intro K hK)
      | (apply hK; clear hK)
      | (apply WC_region)
      | (apply WL_nil)
      | (apply thenQ_normal)
      | (apply blockQ_normal)
      | (apply WC_skip)
      | (apply WC_if_false; eq_refl)
      | (apply WL_on0; eq_refl)
      | (apply X_pv; eq_refl; first | exact trivial | omega))
      exact ⟨(k + 1, _), ⟨rfl, rfl, trivial⟩, ⟨hC4, hN4, hfn, hlt, hgo⟩, by simp only; omega⟩
  · rw [List.drop_eq_nil_of_le hge] at hgo
    have e : r = -1 := hgo.symm
    repeat' (first
      | (apply WC_seqK; intro K hK)
      | (apply hK; clear hK)
      | (clear hK; apply hK; clear hK)
      | (apply WC_region)
      | (apply WL_nil)
      | (apply thenQ_normal)
      | (apply thenQ_exit)
      | (apply blockQ_hit)
      | (apply WC_ret)
      | (apply WC_exit)
      | (apply WC_if_false; eq_refl)
      | (apply ret2; eq_refl; eq_refl)
      | (apply WL_on0; eq_refl)
      | (apply X_pv; eq_refl; first | exact trivial | omega)
      | (apply X_field; eq_refl)
      | (apply X_loadR; eq_refl; (first | assumption | (apply Blk.alloc; assumption) | apply Blk.new | apply Blk.newA | (apply Blk.alloc; first | apply Blk.newA | (apply Blk.alloc; first | assumption | apply Blk.newA))); eq_refl)
      | (apply X_cmpF; eq_refl; eq_refl; omega)
      | (apply X_len; eq_refl))
    exact ⟨by rw [hr, e, if_neg (by decide), if_neg (by decide)], hC1⟩
end SC
end Go.Proofs.Ytkndegjodnciaaa
end
section
/- trestleref03: Check. -/
set_option linter.unusedVariables false
set_option linter.unusedSimpArgs false
namespace Go.Proofs.Ytkndegjodnciaaa
namespace SC
open Go.Proofs
theorem mem_bytesI {s : ByteArray} {x : Int} : x ∈ bytesI s ↔ ∃ k, k < s.size ∧ byteAt s k = x := by
  have hl : (bytesI s).length = s.size := bytesI_len s
  have hb : ∀ k, byteAt s k = (bytesI s).getD k 0 := fun k => rfl
  constructor
  · intro h
    obtain ⟨k, hk, rfl⟩ := List.mem_iff_getElem.1 h
    exact ⟨k, by omega, by rw [hb]; simp [hk]⟩
  · rintro ⟨k, hk, rfl⟩
    have hk' : k < (bytesI s).length := by omega
    rw [hb, List.getD_eq_getElem?_getD, List.getElem?_eq_getElem hk']
    exact List.getElem_mem hk'
attribute [local irreducible] WC WL WX WS WO OX Does DoesU Enters CV Pure thenQ blockQ retQ Wants retQC
set_option maxRecDepth 100000
theorem checkRef_cv {w : World} {c : Circ} {h js : Hd} (H : CirAt w c h js) (hs : c.Sane) (ho : c.Okay) (hf : c.Fits) : CV Try.prog 25 [.agg (ccells c h).toArray] w fun v w' => v = .tuple #[nu (lookM c).1, nu (lookM c).2] ∧ Chg w w' none_ := by
  have hI0 : Blk (w.alloc (.cells (ccells c h).toArray 51)) w.heap.size 51 (ccells c h) := Blk.new w _ _
  have hC0 := Chg.alloc w (.cells (ccells c h).toArray 51) none_
  have hsz := size_cv (H.chg hC0) hf ho
  refine enter 97 [2, 3] Try.func25 rfl rfl rfl (by decide) rfl ?_
  repeat' (first
      | (apply X_fn; eq_refl; exact hsz; rintro _ w1 ⟨rfl, hC1⟩; have hI1 := hI0.chg hC1 id; have hC1' := hC0.trans hC1 fun _ _ h => h)
      | (apply WC_seqK; intro K hK)
      | (apply hK; clear hK)
      | (apply WC_region)
      | (apply WL_nil)
      | (apply thenQ_normal)
      | (apply thenQ_ret)
      | (apply WC_ret)
      | (apply WC_skip)
      | (apply WC_if_true; eq_refl)
      | (apply WC_if_false; eq_refl)
      | (apply ret2; eq_refl; eq_refl)
      | (apply WL_on0; eq_refl)
      | (apply X_pv; eq_refl; first | exact trivial | omega)
      | (apply X_loadW; eq_refl; (first | assumption | (apply Blk.alloc; assumption) | apply Blk.new | apply Blk.newA | (apply Blk.alloc; first | apply Blk.newA | (apply Blk.alloc; first | assumption | apply Blk.newA))); eq_refl)
      | (apply X_cmp; eq_refl; eq_refl; all_goals intro _)
      | (apply X_box; eq_refl))
  · exact ⟨by unfold lookM; rw [if_pos (by assumption)], hC1'⟩
  have hz : sizesM c = 0 := Classical.byContradiction (by assumption)
  obtain ⟨hm0, hm1, hln, hsum⟩ := sizesM_ok hz
  have hdf := defined_cv (H.chg hC1') ho ⟨hm0, hm1⟩
  have hl1 : lookM c = if (definesM c (T0 c)).1.2 ≠ 0 then (definesM c (T0 c)).1
    else if (usesM c (tabM c)).2 ≠ 0 then usesM c (tabM c)
    else if 0 ≤ cycM c.ands.length (gateB (tabM c) c) then (cycM c.ands.length (gateB (tabM c) c), 34)
    else if 0 ≤ goSym c c.symbols 0 (fun _ _ => 0) then (goSym c c.symbols 0 (fun _ _ => 0), 35)
    else if 0 ≤ goCom c.comments 0 then (goCom c.comments 0, 36)
    else (0, 0) := by unfold lookM; rw [if_neg (by assumption)]
  repeat' (first
      | (apply X_fn; eq_refl; exact hdf; rintro _ w2 ⟨hC2, ⟨hd, rfl⟩ | ⟨hd, b, n, hb0, hn, hnl, rfl, hB2⟩⟩)
      | (apply WC_seqK; intro K hK)
      | (apply hK; clear hK)
      | (apply WC_region)
      | (apply WL_nil)
      | (apply thenQ_normal)
      | (apply thenQ_ret)
      | (apply WC_ret)
      | (apply WC_skip)
      | (apply WC_if_true; eq_refl)
      | (apply WC_if_false; eq_refl)
      | (apply ret2; eq_refl; eq_refl)
      | (apply WL_on0; eq_refl)
      | (apply X_pv; eq_refl; first | exact trivial | omega)
      | (apply X_cmpT; eq_refl; eq_refl; omega)
      | (apply X_cmpF; eq_refl; eq_refl; omega))
  · exact ⟨by rw [hl1, if_pos hd], hC1'.trans hC2 fun _ _ h => h⟩
  rw [if_neg (fun hh => hh hd)] at hl1
  have hTO : TabOk c (tabM c) := definesM_spec hm0 hd
  have hC2' := hC1'.trans hC2 fun _ _ h => h
  have hI2 := hI1.chg hC2 id
  have hus := uses_cv' (H.chg hC2') ho ⟨hm0, hm1⟩ hB2 (by rw [hnl]; exact hn) hnl.symm
  repeat' (first
      | (apply X_fn; eq_refl; exact hus; rintro _ w3 ⟨rfl, hC3⟩; have hI3 := hI2.chg hC3 id; have hC3' := hC2'.trans hC3 fun _ _ h => h)
      | (apply WC_seqK; intro K hK)
      | (apply hK; clear hK)
      | (apply WC_region)
      | (apply WL_nil)
      | (apply thenQ_normal)
      | (apply thenQ_ret)
      | (apply WC_ret)
      | (apply WC_skip)
      | (apply WC_if_true; eq_refl)
      | (apply WC_if_false; eq_refl)
      | (apply ret2; eq_refl; eq_refl)
      | (apply WL_on0; eq_refl)
      | (apply X_pv; eq_refl; first | exact trivial | omega)
      | (apply X_loadW; eq_refl; (first | assumption | (apply Blk.alloc; assumption) | apply Blk.new | apply Blk.newA | (apply Blk.alloc; first | apply Blk.newA | (apply Blk.alloc; first | assumption | apply Blk.newA))); eq_refl)
      | (apply X_cmp; eq_refl; eq_refl; all_goals intro _))
  · exact ⟨by rw [hl1, if_pos (by assumption)], hC3'⟩
  have hu0 : (usesM c (tabM c)).2 = 0 := Classical.byContradiction (by assumption)
  rw [if_neg (fun hh => hh hu0)] at hl1
  have hUA := usesM_spec.1 hu0
  have hna : c.ands.length ≤ 16384 := by have := hln (c.ands.length : Int) (by simp [Circ.lens]); omega
  have hB := hTO.below hUA
  clear hus hdf hsz hB2
  refine WC_draws [(0, true), (3, true), (4, true), (5, true), (1, false), (2, true), (6, true)] (fun W => Chg w W none_ ∧ Blk W w.heap.size 51 (ccells c h)) mixed (by kernel_rfl) (by kernel_rfl) ?_
  have hS : Chg w w3.drew none_ ∧ Blk w3.drew w.heap.size 51 (ccells c h) := ⟨hC3'.dr, hI3⟩
  have htd := told_cv (H.chg hS.1) hTO hUA ⟨hm0, hm1⟩ hna
  repeat' (first
      | (apply O_loadW; eq_refl; (exact fun _ h => h.2); eq_refl; assumption)
      | (apply O_loadR; eq_refl; (exact fun _ h => h.2); eq_refl; assumption)
      | (apply O_fn; eq_refl; exact htd; rintro v4 w4 ⟨hC4, out, hall, hrow⟩; obtain ⟨A4, cp4, rfl⟩ := row_form' hrow; have hS4 : Chg w w4 none_ ∧ Blk w4 w.heap.size 51 (ccells c h) := ⟨hS.1.trans hC4 fun k hk hh => hh, hS.2.chg hC4 id⟩; have hol := hall.told.size; refine ⟨fun _ => hS4, ?_⟩)
      | (apply WC_seqK; intro K hK)
      | (apply hK; clear hK)
      | (apply WC_region)
      | (apply thenQ_normal)
      | (apply WC_skip)
      | (apply WC_if_true; eq_refl)
      | (apply WC_if_false; eq_refl)
      | (apply WS_nil)
      | (apply WS_next; eq_refl)
      | (apply WO_on0; eq_refl)
      | (apply O_field; eq_refl; (first | assumption | exact trivial))
      | (apply O_cmp; eq_refl; eq_refl; (first | assumption | exact trivial); all_goals intro _)
      | (apply O_len; eq_refl; (first | assumption | exact trivial))
      | (apply WL_on0; eq_refl))
  all_goals obtain ⟨hC4', hI4⟩ := hS4
  · have hlt0 : out.length < c.ands.length := by omega
    have hgt := gates80_cv (H.chg hC4') hTO ⟨hm0, hm1⟩ hna
    repeat' (first
      | (apply X_fn; eq_refl; exact hgt; rintro _ w5 ⟨rfl, hG5, hC5⟩; have hI5 := hI4.chg hC5 id; have hC5' := hC4'.trans hC5 fun _ _ h => h)
      | (apply WC_seqK; intro K hK)
      | (apply hK; clear hK)
      | (apply WC_block)
      | (apply WC_region)
      | (apply WL_nil)
      | (apply thenQ_normal)
      | (apply WL_on0; eq_refl)
      | (apply X_pv; eq_refl; first | exact trivial | omega)
      | (apply X_loadW; eq_refl; (first | assumption | (apply Blk.alloc; assumption) | apply Blk.new | apply Blk.newA | (apply Blk.alloc; first | apply Blk.newA | (apply Blk.alloc; first | assumption | apply Blk.newA))); eq_refl))
    generalize w4.heap.size + 1 = g at *
    refine WC_loop (fun i : Nat => [(1, pt w.heap.size), (10, .slice (some ⟨g, 0, none⟩) (gatesM c).length (gatesM c).length), (11, nu i)])
      (fun i W => Chg w W none_ ∧ Blk W w.heap.size 51 (ccells c h) ∧ Blk W g 3 ((gatesM c).map nu) ∧ i ≤ c.ands.length ∧ ∀ j, rg c.ands.length j → j < (i : Int) → ¬ Hangs (gateB (tabM c) c) j j) (fun i => c.ands.length - i) 0 ⟨rfl, rfl, rfl, trivial⟩ ⟨hC5', hI5, hG5, Nat.zero_le _, fun j hj hj2 => by unfold rg at hj; omega⟩ ?_
    clear hC5' hI5 hG5 hC5 w5
    rintro i w5 ⟨hC5, hI5, hG5, hi, hno⟩
    rcases Nat.lt_or_ge i c.ands.length with hlt | hge
    · have hri : rg c.ands.length (i : Int) := ⟨by omega, by omega⟩
      have hrd := round_cv (H.chg hC5) hG5 hTO hUA ⟨hm0, hm1⟩ hna hri
      repeat' (first
      | (apply X_fn; eq_refl; exact hrd; rintro _ w6 ⟨b, rfl, hb6, hC6⟩; have hI6 := hI5.chg hC6 id; have hC6' := hC5.trans hC6 fun _ _ h => h; cases b)
      | (apply WC_seqK; intro K hK)
      | (apply hK; clear hK)
      | (apply WC_block)
      | (apply WC_region)
      | (apply WL_nil)
      | (apply thenQ_normal)
      | (apply thenQ_ret)
      | (apply blockQ_ret)
      | (apply blockQ_normal)
      | (apply WC_ret)
      | (apply WC_skip)
      | (apply WC_if_true; eq_refl)
      | (apply WC_if_false; eq_refl)
      | (apply ret2; eq_refl; eq_refl)
      | (apply WL_on0; eq_refl)
      | (apply X_pv; eq_refl; first | exact trivial | omega)
      | (apply X_field; eq_refl)
      | (apply X_loadR; eq_refl; (first | assumption | (apply Blk.alloc; assumption) | apply Blk.new | apply Blk.newA | (apply Blk.alloc; first | apply Blk.newA | (apply Blk.alloc; first | assumption | apply Blk.newA))); eq_refl)
      | (apply X_loadW; eq_refl; (first | assumption | (apply Blk.alloc; assumption) | apply Blk.new | apply Blk.newA | (apply Blk.alloc; first | apply Blk.newA | (apply Blk.alloc; first | assumption | apply Blk.newA))); eq_refl)
      | (apply X_cmpT; eq_refl; eq_refl; omega)
      | (apply X_len; eq_refl))
      · refine ⟨i + 1, ⟨rfl, rfl, rfl, trivial⟩, ⟨hC6', hI6, hG5.chg hC6 id, hlt, fun j hj hji hh => ?_⟩, by omega⟩
        rcases Int.lt_or_le j (i : Int) with h1 | h1
        · exact hno j hj h1 hh
        · have : j = i := by omega
          subst this
          have := hb6.2 hh
          cases this
      · have hcy : CycOf c.ands.length (gateB (tabM c) c) (i : Int) := ⟨out, hall, .inr ⟨hlt0, hri, hb6.1 rfl, hno⟩⟩
        rw [cycM_eq hcy, if_pos (by omega)] at hl1
        exact ⟨by rw [hl1], hC6'⟩
    · obtain ⟨j, hj, hh⟩ := hall.round hB hlt0
      exact absurd hh (hno j hj (by unfold rg at hj; omega))
  have hcy : CycOf c.ands.length (gateB (tabM c) c) (-1) := ⟨out, hall, .inl ⟨by omega, rfl⟩⟩
  rw [cycM_eq hcy, if_neg (by decide)] at hl1
  have hsy := symbols82_cv (H.chg hC4') hs
  by_cases hgs : 0 ≤ goSym c c.symbols 0 fun _ _ => 0
  · rw [if_pos hgs, if_pos hgs] at hsy
    rw [if_pos hgs] at hl1
    repeat' (first
      | (apply X_fn; eq_refl; exact hsy; rintro _ w5 ⟨rfl, hC5⟩)
      | (apply WC_seqK; intro K hK)
      | (apply hK; clear hK)
      | (apply WC_region)
      | (apply WL_nil)
      | (apply thenQ_normal)
      | (apply thenQ_ret)
      | (apply WC_ret)
      | (apply WC_if_true; eq_refl)
      | (apply ret2; eq_refl; eq_refl)
      | (apply WL_on0; eq_refl)
      | (apply X_pv; eq_refl; first | exact trivial | omega)
      | (apply X_loadW; eq_refl; (first | assumption | (apply Blk.alloc; assumption) | apply Blk.new | apply Blk.newA | (apply Blk.alloc; first | apply Blk.newA | (apply Blk.alloc; first | assumption | apply Blk.newA))); eq_refl)
      | (apply X_cmpT; eq_refl; eq_refl; omega))
    exact ⟨by rw [hl1], hC4'.trans hC5 fun _ _ h => h⟩
  rw [if_neg hgs, if_neg hgs] at hsy
  rw [if_neg hgs] at hl1
  repeat' (first
      | (apply X_fn; eq_refl; exact hsy; rintro _ w5 ⟨rfl, hC5⟩; have hI5 := hI4.chg hC5 id; have hC5' := hC4'.trans hC5 fun _ _ h => h)
      | (apply WC_seqK; intro K hK)
      | (apply hK; clear hK)
      | (apply WC_block)
      | (apply WC_region)
      | (apply WL_nil)
      | (apply thenQ_normal)
      | (apply WC_skip)
      | (apply WC_if_false; eq_refl)
      | (apply WL_on0; eq_refl)
      | (apply X_pv; eq_refl; first | exact trivial | omega)
      | (apply X_loadW; eq_refl; (first | assumption | (apply Blk.alloc; assumption) | apply Blk.new | apply Blk.newA | (apply Blk.alloc; first | apply Blk.newA | (apply Blk.alloc; first | assumption | apply Blk.newA))); eq_refl)
      | (apply X_cmpF; eq_refl; eq_refl; omega))
  have hkl := hs.lens.2.2.2.2.2.2.2.2.2
  have htx := hs.texts
  refine WC_loop (fun i : Nat => [(1, pt w.heap.size), (14, nu i)]) (fun i W => Chg w W none_ ∧ Blk W w.heap.size 51 (ccells c h) ∧ i ≤ c.comments.length ∧ goCom (c.comments.drop i) i = goCom c.comments 0) (fun i => c.comments.length - i) 0 ⟨rfl, rfl, trivial⟩ ⟨hC5', hI5, Nat.zero_le _, rfl⟩ ?_
  clear hsy hC5' hI5 hC5 w5
  rintro i w5 ⟨hC5, hI5, hi, hgo⟩
  rcases Nat.lt_or_ge i c.comments.length with hlt | hge
  · obtain ⟨p, hp, hpc⟩ := (H.chg hC5).comments.one hlt (v := .string c.comments[i]) rfl
    rw [goCom_step hlt] at hgo
    have htl := htx _ (List.getElem_mem hlt)
    generalize hx : c.comments[i] = s at *
    have e6 : (ccells c h)[0 + 10]? = some (.slice (some p) c.comments.length (h 10).2) := by rw [← hp]; rfl
    repeat' (first
      | (apply WC_seqK; intro K hK)
      | (apply hK; clear hK)
      | (apply WC_block)
      | (apply WC_region)
      | (apply WL_nil)
      | (apply thenQ_normal)
      | (apply WC_skip)
      | (apply WC_if_true; eq_refl)
      | (apply WL_on0; eq_refl)
      | (apply X_pv; eq_refl; first | exact trivial | omega)
      | (apply X_field; eq_refl)
      | (apply X_loadR; eq_refl; (first | assumption | (apply Blk.alloc; assumption) | apply Blk.new | apply Blk.newA | (apply Blk.alloc; first | apply Blk.newA | (apply Blk.alloc; first | assumption | apply Blk.newA))); eq_refl)
      | (apply X_cmpT; eq_refl; eq_refl; omega)
      | (apply X_len; eq_refl))
    refine WC_loop (fun k : Nat => [(1, pt w.heap.size), (14, nu i), (15, nu k)]) (fun k W => W = w5 ∧ k ≤ s.size ∧ ∀ j, j < k → byteAt s j ≠ 10) (fun k => s.size - k) 0 ⟨rfl, rfl, rfl, trivial⟩ ⟨rfl, Nat.zero_le _, fun j hj => absurd hj (Nat.not_lt_zero _)⟩ ?_
    rintro k w6 ⟨rfl, hk, hall10⟩
    rcases Nat.lt_or_ge k s.size with hkl2 | hkg
    · repeat' (first
      | (apply X_loadR; eq_refl; exact hI5; exact e6)
      | (apply X_loadC; eq_refl; exact hpc)
      | (apply X_idxS; eq_refl; eq_refl; omega)
      | (apply WC_seqK; intro K hK)
      | (apply hK; clear hK)
      | (apply WC_block)
      | (apply WC_region)
      | (apply WL_nil)
      | (apply thenQ_normal)
      | (apply thenQ_ret)
      | (apply blockQ_ret)
      | (apply blockQ_normal)
      | (apply WC_ret)
      | (apply WC_skip)
      | (apply WC_if_true; eq_refl)
      | (apply WC_if_false; eq_refl)
      | (apply ret2; eq_refl; eq_refl)
      | (apply WL_on0; eq_refl)
      | (apply X_pv; eq_refl; first | exact trivial | omega)
      | (apply X_field; eq_refl)
      | (apply X_cmpT; eq_refl; eq_refl; omega)
      | (apply X_cmp; eq_refl; eq_refl; all_goals intro _)
      | (apply X_lenS; eq_refl)
      | (apply X_indexP; eq_refl; eq_refl; omega; omega))
      · rw [if_pos (mem_bytesI.2 ⟨k, hkl2, by assumption⟩)] at hgo
        rw [← hgo, if_pos (by omega)] at hl1
        exact ⟨by rw [hl1], hC5⟩
      · exact ⟨k + 1, ⟨rfl, rfl, rfl, trivial⟩, ⟨rfl, hkl2, fun j hj => by
          rcases Nat.lt_or_ge j k with h1 | h1
          · exact hall10 j h1
          · have : j = k := by omega
            subst this
            assumption⟩, by omega⟩
    · rw [if_neg (fun hh => by
        obtain ⟨j, hj, hj2⟩ := mem_bytesI.1 hh
        exact hall10 j (by omega) hj2)] at hgo
      repeat' (first
      | (apply X_loadR; eq_refl; exact hI5; exact e6)
      | (apply X_loadC; eq_refl; exact hpc)
      | (apply WC_seqK; intro K hK)
      | (apply hK; clear hK)
      | (clear hK; apply hK; clear hK)
      | (apply WC_region)
      | (apply WL_nil)
      | (apply thenQ_normal)
      | (apply thenQ_exit)
      | (apply blockQ_hit)
      | (apply blockQ_normal)
      | (apply WC_exit)
      | (apply WC_if_false; eq_refl)
      | (apply WL_on0; eq_refl)
      | (apply X_pv; eq_refl; first | exact trivial | omega)
      | (apply X_field; eq_refl)
      | (apply X_cmpF; eq_refl; eq_refl; omega)
      | (apply X_lenS; eq_refl)
      | (apply X_indexP; eq_refl; eq_refl; omega; omega))
      exact ⟨i + 1, ⟨rfl, rfl, trivial⟩, ⟨hC5, hI5, hlt, hgo⟩, by omega⟩
  · rw [List.drop_eq_nil_of_le hge] at hgo
    rw [← hgo, if_neg (by simp [goCom])] at hl1
    repeat' (first
      | (apply WC_seqK; intro K hK)
      | (apply hK; clear hK)
      | (clear hK; apply hK; clear hK)
      | (apply WC_region)
      | (apply WL_nil)
      | (apply thenQ_normal)
      | (apply thenQ_exit)
      | (apply blockQ_hit)
      | (apply WC_ret)
      | (apply WC_exit)
      | (apply WC_if_false; eq_refl)
      | (apply ret2; eq_refl; eq_refl)
      | (apply WL_on0; eq_refl)
      | (apply X_pv; eq_refl; first | exact trivial | omega)
      | (apply X_field; eq_refl)
      | (apply X_loadR; eq_refl; (first | assumption | (apply Blk.alloc; assumption) | apply Blk.new | apply Blk.newA | (apply Blk.alloc; first | apply Blk.newA | (apply Blk.alloc; first | assumption | apply Blk.newA))); eq_refl)
      | (apply X_cmpF; eq_refl; eq_refl; omega)
      | (apply X_len; eq_refl))
    exact ⟨by rw [hl1], hC5⟩
theorem orderRef_cv {w : World} {c : Circ} {h js : Hd} (H : CirAt w c h js) (hs : c.Sane) (ho : c.Okay) (hf : c.Fits) : CV Try.prog 27 [.agg (ccells c h).toArray] w fun v w' => Chg w w' none_ ∧
    (((lookM c).2 ≠ 0 ∧ v = .tuple #[.slice none 0 0, nu (lookM c).2]) ∨ ((lookM c).2 = 0 ∧ ∃ out u, v = .tuple #[u, nu 0] ∧ All c.ands.length (gateB (tabM c) c) out ∧ w'.ownsRow w.heap.size 3 1 u out.length (out.map nu))) := by
  have hI0 : Blk (w.alloc (.cells (ccells c h).toArray 51)) w.heap.size 51 (ccells c h) := Blk.new w _ _
  have hC := Chg.alloc w (.cells (ccells c h).toArray 51) none_
  have hck := checkRef_cv (H.chg hC) hs ho hf
  refine enter 16 [2, 3] Try.func27 rfl rfl rfl (by decide) rfl ?_
  by_cases he : (lookM c).2 = 0
  · obtain ⟨hle, hsz, hd, hu, _⟩ := lookM_ok he
    obtain ⟨hm0, hm1, hln, hsum⟩ := sizesM_ok hsz
    have hTO : TabOk c (tabM c) := definesM_spec hm0 hd
    have hUA := usesM_spec.1 hu
    have hna : c.ands.length ≤ 16384 := by have := hln (c.ands.length : Int) (by simp [Circ.lens]); omega
    rw [he] at hck
    have htd := fun (W : World) (hW : Chg w W none_) => told_cv (H.chg hW) hTO hUA ⟨hm0, hm1⟩ hna
    repeat' (first
      | (apply X_fn; eq_refl; exact hck; rintro _ w1 ⟨rfl, hC1⟩; have hI1 := hI0.chg hC1 id; have hC1' := hC.trans hC1 fun _ _ h => h)
      | (apply X_fn; eq_refl; exact htd _ hC1'; rintro v2 w2 ⟨hC2, out, hall, hrow⟩)
      | (apply WC_seqK; intro K hK)
      | (apply hK; clear hK)
      | (apply WC_region)
      | (apply WL_nil)
      | (apply thenQ_normal)
      | (apply WC_ret)
      | (apply WC_skip)
      | (apply WC_if_false; eq_refl)
      | (apply ret2; eq_refl; eq_refl)
      | (apply WL_on0; eq_refl)
      | (apply X_pv; eq_refl; first | exact trivial | omega)
      | (apply X_loadW; eq_refl; (first | assumption | (apply Blk.alloc; assumption) | apply Blk.new | apply Blk.newA | (apply Blk.alloc; first | apply Blk.newA | (apply Blk.alloc; first | assumption | apply Blk.newA))); eq_refl)
      | (apply X_cmpF; eq_refl; eq_refl; omega)
      | (apply X_box; eq_refl))
    have hs1 := hC1'.size
    exact ⟨hC1'.trans hC2 fun _ _ h => h, .inr ⟨he, out, v2, rfl, hall, own_mono hrow hs1⟩⟩
  · repeat' (first
      | (apply X_fn; eq_refl; exact hck; rintro _ w1 ⟨rfl, hC1⟩; have hI1 := hI0.chg hC1 id; have hC1' := hC.trans hC1 fun _ _ h => h)
      | (apply WC_seqK; intro K hK)
      | (apply hK; clear hK)
      | (apply WC_region)
      | (apply WL_nil)
      | (apply thenQ_normal)
      | (apply thenQ_ret)
      | (apply WC_ret)
      | (apply WC_if_true; eq_refl)
      | (apply ret2; eq_refl; eq_refl)
      | (apply WL_on0; eq_refl)
      | (apply X_pv; eq_refl; first | exact trivial | omega)
      | (apply X_loadW; eq_refl; (first | assumption | (apply Blk.alloc; assumption) | apply Blk.new | apply Blk.newA | (apply Blk.alloc; first | apply Blk.newA | (apply Blk.alloc; first | assumption | apply Blk.newA))); eq_refl)
      | (apply X_cmpT; eq_refl; eq_refl; omega)
      | (apply X_box; eq_refl))
    exact ⟨hC1', .inl ⟨he, rfl⟩⟩
end SC
end Go.Proofs.Ytkndegjodnciaaa
end
section
/- ShapeChecks: the walk. -/
set_option linter.unusedVariables false
set_option linter.unusedSimpArgs false
namespace Go.Proofs.Ytkndegjodnciaaa
namespace SC
open Go.Proofs
theorem Circ.Fits.lens1 {c : Circ} (hf : c.Fits) : ∀ n ∈ c.lens, n + 1 ≤ 9223372036854775807 := by
  intro n hn
  have h1 := hf.inputs
  have h2 := hf.latches
  have h3 := hf.outputs
  have h4 := hf.bads
  have h5 := hf.constraints
  have h6 := hf.justice
  have h7 := hf.fairness
  have h8 := hf.ands
  have h9 := hf.symbols
  have h10 := hf.comments
  simp only [Circ.lens, List.mem_cons, List.not_mem_nil, or_false] at hn
  rcases hn with rfl | rfl | rfl | rfl | rfl | rfl | rfl | rfl | rfl | rfl <;> omega
attribute [local irreducible] WC WL WX WS WO OX Does DoesU Enters CV Pure thenQ blockQ retQ Wants retQC
set_option maxRecDepth 100000
theorem checks_cv {w : World} {c : Circ} {h js : Hd} (H : CirAt w c h js) (hs : c.Sane) (ho : c.Okay) (hf : c.Fits1) (hn : Nils h js) : CV Try.prog 4 [.agg (ccells c h).toArray] w fun v w' => v = .bool true ∧ Chg w w' none_ := by
  have hI0 : Blk (w.alloc (.cells (ccells c h).toArray 51)) w.heap.size 51 (ccells c h) := Blk.new w _ _
  have hC0 := Chg.alloc w (.cells (ccells c h).toArray 51) none_
  have hnm : ∀ W, CV Try.prog 22 [] W fun v w' => v = .bool true ∧ Chg W w' none_ := fun W => names_cv
  have hwk : ∀ W, CV Try.prog 31 [] W fun v w' => v = .bool true ∧ Chg W w' none_ := fun W => works_cv
  refine enter 63 [2] Try.func4 rfl rfl rfl (by decide) rfl ?_
  repeat' (first
      | (apply X_fn; eq_refl; exact (hnm _); rintro _ w1 ⟨rfl, hC1⟩; have hI1 := hI0.chg hC1 id; have hC1' := hC0.trans hC1 fun _ _ h => h)
      | (apply WC_seqK; intro K hK)
      | (apply hK; clear hK)
      | (apply WC_region)
      | (apply WL_nil)
      | (apply thenQ_normal)
      | (apply WC_skip)
      | (apply WC_if_false; eq_refl)
      | (apply WL_on0; eq_refl)
      | (apply X_pv; eq_refl; first | exact trivial | omega)
      | (apply X_loadW; eq_refl; (first | assumption | (apply Blk.alloc; assumption) | apply Blk.new | apply Blk.newA | (apply Blk.alloc; first | apply Blk.newA | (apply Blk.alloc; first | assumption | apply Blk.newA))); eq_refl)
      | (apply X_box; eq_refl))
  have hld := lendCircuit_cv (H.chg hC1') hf hn
  repeat' (first
      | (apply X_fn; eq_refl; exact hld; rintro _ w2 ⟨h2, js2, rfl, hL2, hC2⟩; have hI2 := hI1.chg hC2 id; have hC2' := hC1'.trans hC2 fun _ _ h => h)
      | (apply WL_on0; eq_refl)
      | (apply X_alloc))
  refine X_doesU (does_storeA (t1 := 51) (vs := ccells c h2) (o := 0) (b := w2.heap.size) (by eq_refl) (by eq_refl) (cs := (Value.agg #[nu 0, .slice none 0 0, .slice none 0 0, .slice none 0 0, .slice none 0 0, .slice none 0 0, .slice none 0 0, .slice none 0 0, .slice none 0 0, .slice none 0 0, .slice none 0 0]).cells.toList) (Blk.newA w2 (Value.agg #[nu 0, .slice none 0 0, .slice none 0 0, .slice none 0 0, .slice none 0 0, .slice none 0 0, .slice none 0 0, .slice none 0 0, .slice none 0 0, .slice none 0 0, .slice none 0 0]).cells 51) rfl (by exact Nat.le_refl 11) (by simp [ccells, Value.oneCell'])) ?_
  have hcc : Chg w2 ((w2.alloc (.cells (Value.agg #[nu 0, .slice none 0 0, .slice none 0 0, .slice none 0 0, .slice none 0 0, .slice none 0 0, .slice none 0 0, .slice none 0 0, .slice none 0 0, .slice none 0 0, .slice none 0 0]).cells 51)).setRow w2.heap.size (ccells c h2).toArray) none_ := (Chg.alloc w2 _ none_).trans (Chg.setRow _ w2.heap.size _ (S := fun k => k = w2.heap.size) rfl) fun k hk h => by omega
  refine WL_turn (fun W => Chg w W none_ ∧ Blk W w.heap.size 51 (ccells c h) ∧ Blk W w2.heap.size 51 (ccells c h2) ∧ CirLent W w1.heap.size c h2 js2) ⟨hC2'.trans hcc fun _ _ h => h, hI2.chg hcc id, (Blk.newA w2 (Value.agg #[nu 0, .slice none 0 0, .slice none 0 0, .slice none 0 0, .slice none 0 0, .slice none 0 0, .slice none 0 0, .slice none 0 0, .slice none 0 0, .slice none 0 0, .slice none 0 0]).cells 51).set (ccells c h2), hL2.chg hcc⟩ ?_
  clear hcc hC2' hI2 hL2 hC2 hld
  generalize w2.heap.size = b3
  generalize w1.heap.size = base
  rintro w3 ⟨hC3, hI3, hJ3, hL3⟩
  have hck := fun (W : World) (hW : Chg w3 W none_) => check_cv (hL3.at.chg hW) hs
  have hcr := fun (W : World) (hW : Chg w3 W none_) => checkRef_cv ((H.chg hC3).chg hW) hs ho hf.toFits
  have hr3 := Chg.refl w3 none_
  repeat' (first
      | (apply X_fn; eq_refl; (exact hck _ (by assumption)); rintro _ w4 ⟨rfl, hC4⟩; have hI4 := hI3.chg hC4 id; have hJ4 := hJ3.chg hC4 id)
      | (apply X_fn; eq_refl; (exact hcr _ hC4); rintro _ w5 ⟨rfl, hC5⟩; have hI5 := hI4.chg hC5 id; have hJ5 := hJ4.chg hC5 id; have hC5' := hC4.trans hC5 fun _ _ h => h)
      | (apply WC_seqK; intro K hK)
      | (apply hK; clear hK)
      | (apply WC_region)
      | (apply WL_nil)
      | (apply thenQ_normal)
      | (apply WL_on0; eq_refl)
      | (apply X_pv; eq_refl; first | exact trivial | omega)
      | (apply X_loadW; eq_refl; (first | assumption | (apply Blk.alloc; assumption) | apply Blk.new | apply Blk.newA | (apply Blk.alloc; first | apply Blk.newA | (apply Blk.alloc; first | assumption | apply Blk.newA))); eq_refl))
  clear hI3 hJ3 hI4 hJ4 hck hcr hC4 hC5 hr3
  have hor := Order_cv (hL3.at.chg hC5') hs
  repeat' (first
      | (apply X_fn; eq_refl; exact hor; rintro v6 w6 ⟨hC6, hv6⟩; have hI6 := hI5.chg hC6 id; have hJ6 := hJ5.chg hC6 id; have hC6' := hC5'.trans hC6 fun _ _ h => h; rcases hv6 with ⟨he, rfl⟩ | ⟨he, ord, u, rfl, hall, hol, hrow⟩)
      | (apply WC_seqK; intro K hK)
      | (apply hK; clear hK)
      | (apply WC_region)
      | (apply WL_nil)
      | (apply thenQ_normal)
      | (apply WL_on0; eq_refl)
      | (apply X_pv; eq_refl; first | exact trivial | omega)
      | (apply X_loadW; eq_refl; (first | assumption | (apply Blk.alloc; assumption) | apply Blk.new | apply Blk.newA | (apply Blk.alloc; first | apply Blk.newA | (apply Blk.alloc; first | assumption | apply Blk.newA))); eq_refl))
  all_goals have horr := orderRef_cv ((H.chg hC3).chg hC6') hs ho hf.toFits
  · repeat' (first
      | (apply X_fn; eq_refl; exact horr; rintro v7 w7 ⟨hC7, ⟨he7, rfl⟩ | ⟨he7, _⟩⟩; rotate_left; exact absurd he7 he; have hI7 := hI6.chg hC7 id; have hJ7 := hJ6.chg hC7 id; have hC7' := hC6'.trans hC7 fun _ _ h => h)
      | (apply WC_seqK; intro K hK)
      | (apply hK; clear hK)
      | (apply WC_region)
      | (apply WL_nil)
      | (apply thenQ_normal)
      | (apply WL_on0; eq_refl)
      | (apply WL_onG; eq_refl; eq_refl; eq_refl; eq_refl)
      | (apply X_pv; eq_refl; first | exact trivial | omega)
      | (apply X_cmpF; eq_refl; eq_refl; omega))
    have hsi := sameInts_cv (A := none) (B := none) (c := 0) (d := 0) (l := []) (m := []) (w := w7) (fun k hk => absurd hk (Nat.not_lt_zero _)) (fun k hk => absurd hk (Nat.not_lt_zero _)) (by decide) (by decide)
    repeat' (first
      | (apply X_fn; eq_refl; exact hsi; rintro v8 w8 ⟨rfl, hC8⟩; have hI8 := hI7.chg hC8 id; have hJ8 := hJ7.chg hC8 id; have hC8' := hC7'.trans hC8 fun _ _ h => h)
      | (apply X_fn; eq_refl; exact spoilNil_cv (w := w8); intro v9 w9 hC9; have hI9 := hI8.chg hC9 id; have hJ9 := hJ8.chg hC9 id; have hC9' := hC8'.trans hC9 fun _ _ h => h)
      | (apply WC_seqK; intro K hK)
      | (apply hK; clear hK)
      | (apply WC_region)
      | (apply WL_nil)
      | (apply thenQ_normal)
      | (apply WC_skip)
      | (apply WC_if_false; eq_refl)
      | (apply WL_on0; eq_refl)
      | (apply WL_onG; eq_refl; eq_refl; eq_refl; eq_refl)
      | (apply X_pv; eq_refl; first | exact trivial | omega)
      | (apply X_loadW; eq_refl; (first | assumption | (apply Blk.alloc; assumption) | apply Blk.new | apply Blk.newA | (apply Blk.alloc; first | apply Blk.newA | (apply Blk.alloc; first | assumption | apply Blk.newA))); eq_refl)
      | (apply X_cmpF; eq_refl; eq_refl; omega))
    have hkc := keptCircuit_cv (hL3.chg hC9') ((H.chg hC3).chg hC9') ho hf.lens1
    repeat' (first
      | (apply X_fn; eq_refl; exact hkc; rintro _ w10 ⟨rfl, hC10⟩)
      | (apply X_fn; eq_refl; exact (hwk _); rintro _ w11 ⟨rfl, hC11⟩)
      | (apply hK; clear hK)
      | (apply WL_nil)
      | (apply thenQ_normal)
      | (apply WC_ret)
      | (apply ret1; eq_refl)
      | (apply WL_on0; eq_refl)
      | (apply WL_onG; eq_refl; eq_refl; eq_refl; eq_refl)
      | (apply X_pv; eq_refl; first | exact trivial | omega))
    exact ⟨rfl, ((hC3.trans hC9' fun _ _ h => h).trans hC10 fun _ _ h => h).trans hC11 fun _ _ h => h⟩
  · obtain ⟨Au, cu, rfl⟩ := row_form' hrow
    repeat' (first
      | (apply X_fn; eq_refl; exact horr; rintro v7 w7 ⟨hC7, ⟨he7, rfl⟩ | ⟨he7, out, u, rfl, hall7, hrow7⟩⟩; exact absurd he he7; obtain ⟨Ay, cy, rfl⟩ := row_form' hrow7; have hI7 := hI6.chg hC7 id; have hJ7 := hJ6.chg hC7 id; have hC7' := hC6'.trans hC7 fun _ _ h => h)
      | (apply WC_seqK; intro K hK)
      | (apply hK; clear hK)
      | (apply WC_region)
      | (apply WL_nil)
      | (apply thenQ_normal)
      | (apply WL_on0; eq_refl)
      | (apply WL_onG; eq_refl; eq_refl; eq_refl; eq_refl)
      | (apply X_pv; eq_refl; first | exact trivial | omega)
      | (apply X_cmpF; eq_refl; eq_refl; omega))
    obtain rfl := hall7.only hall
    have hnat := hall.told.size
    have hfl := hf.lens1
    have hna : c.ands.length + 1 ≤ 9223372036854775807 := by have := hfl (c.ands.length : Int) (by simp [Circ.lens]); omega
    have hrow' := own_chg hrow hC7 fun _ _ => id
    have hsi := sameInts_cv (c := cu) (d := cy) (rowI hrow') (rowI hrow7) (by omega) (by omega)
    rw [decide_eq_true rfl] at hsi
    have hlt5 : ∀ k, (Value.slice Au out.length cu).ownBlock = some k → w5.heap.size ≤ k := fun k hk => (hrow.lt k hk).1
    have hs5 := hC5'.size
    have hlJ := hJ5.lt
    have hlI := hI5.lt
    repeat' (first
      | (apply X_fn; eq_refl; exact hsi; rintro v8 w8 ⟨rfl, hC8⟩; have hI8 := hI7.chg hC8 id; have hJ8 := hJ7.chg hC8 id; have hC8' := hC7'.trans hC8 fun _ _ h => h)
      | (apply X_fn; eq_refl; exact spoil_cv (own_chg hrow' hC8 fun _ _ => id); intro v9 w9 hC9; have hI9 := hI8.chg hC9 (fun hh => by have := hlt5 _ hh; omega); have hJ9 := hJ8.chg hC9 (fun hh => by have := hlt5 _ hh; omega); have hC9' : Chg w3 w9 none_ := hC8'.trans hC9 fun k hk hh => by have := hlt5 _ hh; omega)
      | (apply WC_seqK; intro K hK)
      | (apply hK; clear hK)
      | (apply WC_region)
      | (apply WL_nil)
      | (apply thenQ_normal)
      | (apply WC_skip)
      | (apply WC_if_false; eq_refl)
      | (apply WL_on0; eq_refl)
      | (apply WL_onG; eq_refl; eq_refl; eq_refl; eq_refl)
      | (apply X_pv; eq_refl; first | exact trivial | omega)
      | (apply X_loadW; eq_refl; (first | assumption | (apply Blk.alloc; assumption) | apply Blk.new | apply Blk.newA | (apply Blk.alloc; first | apply Blk.newA | (apply Blk.alloc; first | assumption | apply Blk.newA))); eq_refl)
      | (apply X_cmpF; eq_refl; eq_refl; omega))
    have hkc := keptCircuit_cv (hL3.chg hC9') ((H.chg hC3).chg hC9') ho hf.lens1
    repeat' (first
      | (apply X_fn; eq_refl; exact hkc; rintro _ w10 ⟨rfl, hC10⟩)
      | (apply X_fn; eq_refl; exact (hwk _); rintro _ w11 ⟨rfl, hC11⟩)
      | (apply hK; clear hK)
      | (apply WL_nil)
      | (apply thenQ_normal)
      | (apply WC_ret)
      | (apply ret1; eq_refl)
      | (apply WL_on0; eq_refl)
      | (apply WL_onG; eq_refl; eq_refl; eq_refl; eq_refl)
      | (apply X_pv; eq_refl; first | exact trivial | omega))
    exact ⟨rfl, ((hC3.trans hC9' fun _ _ h => h).trans hC10 fun _ _ h => h).trans hC11 fun _ _ h => h⟩
end SC
end Go.Proofs.Ytkndegjodnciaaa
end
section
/- slices.Equal, slices.EqualFunc; shape's Same. -/
set_option linter.unusedVariables false
set_option linter.unusedSimpArgs false
namespace Go.Proofs.Ytkndegjodnciaaa
namespace SC
open Go.Proofs
attribute [local irreducible] WC WL WX WS WO OX Does DoesU Enters CV Pure thenQ blockQ retQ Wants retQC
set_option maxRecDepth 100000
theorem equalInts_cv {w : World} {A B : Option Addr} {c d : Nat} {l m : List Int} (R : RowA w icell 1 A l) (R' : RowA w icell 1 B m) (hl : l.length ≤ 9223372036854775807) (hm : m.length ≤ 9223372036854775807) :
    CV Try.prog 96 [.slice A l.length c, .slice B m.length d] w fun v w' => v = .bool (decide (l = m)) ∧ Chg w w' none_ := by
  refine enter 26 [4] Try.func96 rfl rfl rfl (by decide) rfl ?_
  by_cases hlm : l.length = m.length
  · have e : (m.length : Int) = l.length := by omega
    repeat' (first
      | (apply WC_seqK; intro K hK)
      | (apply hK; clear hK)
      | (apply WC_block)
      | (apply WC_region)
      | (apply WL_nil)
      | (apply thenQ_normal)
      | (apply WC_skip)
      | (apply WC_if_false; eq_refl)
      | (apply WL_on0; eq_refl)
      | (apply X_pv; eq_refl; first | exact trivial | omega)
      | (apply X_cmpF; eq_refl; eq_refl; omega)
      | (apply X_len; eq_refl))
    refine WC_loop (fun i : Nat => [(0, .slice A l.length c), (1, .slice B m.length d), (12, nu l.length), (13, nu i)]) (fun i W => Chg w W none_ ∧ i ≤ l.length ∧ l.take i = m.take i) (fun i => l.length - i) 0 ⟨rfl, rfl, rfl, rfl, trivial⟩ ⟨Chg.refl _ _, Nat.zero_le _, by simp⟩ ?_
    rintro i w1 ⟨hC1, hi, heq⟩
    rcases Nat.lt_or_ge i l.length with hlt | hge
    · have hltm : i < m.length := by omega
      obtain ⟨p, hp, hpc⟩ := (R.chg hC1).one hlt (v := nu l[i]) rfl
      obtain ⟨q, hq, hqc⟩ := (R'.chg hC1).one hltm (v := nu m[i]) rfl
      have h1 := List.take_succ_eq_append_getElem hlt
      have h2 := List.take_succ_eq_append_getElem hltm
      rw [hp, hq]
      generalize hx : l[i] = x at *
      generalize hy : m[i] = y at *
      repeat' (first
      | (apply WC_seqK; intro K hK)
      | (apply hK; clear hK)
      | (apply WC_block)
      | (apply WC_region)
      | (apply WL_nil)
      | (apply thenQ_normal)
      | (apply WC_skip)
      | (apply WC_if_true; eq_refl)
      | (apply WL_on0; eq_refl)
      | (apply X_pv; eq_refl; first | exact trivial | omega)
      | (apply X_cmpT; eq_refl; eq_refl; omega))
      refine WC_draws [(0, true), (1, true), (2, true), (3, true), (4, true), (5, true), (6, true), (7, true), (8, true)] (fun W => W.cell? (p.add ((i : Int).toNat * 1)) = some (nu x) ∧ W.cell? (q.add ((i : Int).toNat * 1)) = some (nu y)) mixed (by kernel_rfl) (by kernel_rfl) ?_
      have hS : w1.drew.cell? (p.add ((i : Int).toNat * 1)) = some (nu x) ∧ w1.drew.cell? (q.add ((i : Int).toNat * 1)) = some (nu y) := ⟨hpc, hqc⟩
      repeat' (first
      | (apply WC_seqK; intro K hK)
      | (apply hK; clear hK)
      | (apply WC_region)
      | (apply WL_nil)
      | (apply thenQ_normal)
      | (apply thenQ_ret)
      | (apply blockQ_ret)
      | (apply blockQ_normal)
      | (apply WC_ret)
      | (apply WC_skip)
      | (apply WC_if_true; eq_refl)
      | (apply WC_if_false; eq_refl)
      | (apply ret1; eq_refl)
      | (apply WS_nil)
      | (apply WS_next; eq_refl)
      | (apply WO_on0; eq_refl)
      | (apply O_pv; eq_refl; (first | exact trivial | omega); (first | assumption | exact trivial))
      | (apply O_loadC; eq_refl; (first | (intro _ h; exact h) | (intro _ h; exact h.1) | (intro _ h; exact h.2) | (intro _ h; exact h.2.1) | (intro _ h; exact h.2.2) | (intro _ h; exact h.2.2.1) | (intro _ h; exact h.2.2.2)); (first | assumption | exact trivial))
      | (apply O_cmp; eq_refl; eq_refl; (first | assumption | exact trivial); all_goals intro _)
      | (apply O_indexP; eq_refl; eq_refl; omega; omega; (first | assumption | exact trivial))
      | (apply WL_on0; eq_refl)
      | (apply X_pv; eq_refl; first | exact trivial | omega))
      · have e2 : decide (l = m) = false := decide_eq_false fun h => by
          have hxy : x = y := by rw [← hx, ← hy]; simp only [h]
          contradiction
        rw [e2]
        exact ⟨rfl, hC1.dr⟩
      · refine ⟨i + 1, ⟨by first | rfl | (rw [hp]; rfl), by first | rfl | (rw [hq]; rfl), rfl, rfl, trivial⟩, ⟨hC1.dr, hlt, ?_⟩, by omega⟩
        have hxy : x = y := by first | assumption | omega
        rw [h1, h2, heq, hxy]
    · repeat' (first
      | (apply WC_seqK; intro K hK)
      | (apply hK; clear hK)
      | (clear hK; apply hK; clear hK)
      | (apply WC_region)
      | (apply WL_nil)
      | (apply thenQ_normal)
      | (apply thenQ_exit)
      | (apply blockQ_hit)
      | (apply WC_ret)
      | (apply WC_exit)
      | (apply WC_if_false; eq_refl)
      | (apply ret1; eq_refl)
      | (apply WL_on0; eq_refl)
      | (apply X_pv; eq_refl; first | exact trivial | omega)
      | (apply X_cmpF; eq_refl; eq_refl; omega))
      rw [List.take_of_length_le (by omega), List.take_of_length_le (by omega)] at heq
      rw [heq]
      exact ⟨by simp, hC1⟩
  · have e : decide (l = m) = false := decide_eq_false fun h => hlm (by rw [h])
    rw [e]
    repeat' (first
      | (apply WC_seqK; intro K hK)
      | (apply hK; clear hK)
      | (apply WC_region)
      | (apply WL_nil)
      | (apply thenQ_normal)
      | (apply thenQ_ret)
      | (apply WC_ret)
      | (apply WC_if_true; eq_refl)
      | (apply ret1; eq_refl)
      | (apply WL_on0; eq_refl)
      | (apply X_pv; eq_refl; first | exact trivial | omega)
      | (apply X_cmpT; eq_refl; eq_refl; omega)
      | (apply X_len; eq_refl))
    exact ⟨rfl, Chg.refl _ _⟩
theorem equalLatches_cv {w : World} {A B : Option Addr} {c d : Nat} {l m : List Tri} (R : RowA w tcells 3 A l) (R' : RowA w tcells 3 B m) (hl : l.length ≤ 9223372036854775807) (hm : m.length ≤ 9223372036854775807) (hf : ∀ x ∈ l, TriFits x) (hf' : ∀ x ∈ m, TriFits x) :
    CV Try.prog 97 [.slice A l.length c, .slice B m.length d] w fun v w' => v = .bool (decide (l = m)) ∧ Chg w w' none_ := by
  refine enter 26 [4] Try.func97 rfl rfl rfl (by decide) rfl ?_
  by_cases hlm : l.length = m.length
  · have e : (m.length : Int) = l.length := by omega
    repeat' (first
      | (apply WC_seqK; intro K hK)
      | (apply hK; clear hK)
      | (apply WC_block)
      | (apply WC_region)
      | (apply WL_nil)
      | (apply thenQ_normal)
      | (apply WC_skip)
      | (apply WC_if_false; eq_refl)
      | (apply WL_on0; eq_refl)
      | (apply X_pv; eq_refl; first | exact trivial | omega)
      | (apply X_cmpF; eq_refl; eq_refl; omega)
      | (apply X_len; eq_refl))
    refine WC_loop (fun i : Nat => [(0, .slice A l.length c), (1, .slice B m.length d), (12, nu l.length), (13, nu i)]) (fun i W => Chg w W none_ ∧ i ≤ l.length ∧ l.take i = m.take i) (fun i => l.length - i) 0 ⟨rfl, rfl, rfl, rfl, trivial⟩ ⟨Chg.refl _ _, Nat.zero_le _, by simp⟩ ?_
    rintro i w1 ⟨hC1, hi, heq⟩
    rcases Nat.lt_or_ge i l.length with hlt | hge
    · have hltm : i < m.length := by omega
      obtain ⟨p, hp, hpc⟩ := (R.chg hC1) i hlt
      obtain ⟨q, hq, hqc⟩ := (R'.chg hC1) i hltm
      have h1 := List.take_succ_eq_append_getElem hlt
      have h2 := List.take_succ_eq_append_getElem hltm
      have hfx := hf _ (List.getElem_mem hlt)
      have hfy := hf' _ (List.getElem_mem hltm)
      rw [hp, hq]
      generalize hx : l[i] = x at *
      generalize hy : m[i] = y at *
      have hne := run_neq70 hfx hfy
      repeat' (first
      | (apply WC_seqK; intro K hK)
      | (apply hK; clear hK)
      | (apply WC_block)
      | (apply WC_region)
      | (apply WL_nil)
      | (apply thenQ_normal)
      | (apply WC_skip)
      | (apply WC_if_true; eq_refl)
      | (apply WL_on0; eq_refl)
      | (apply X_pv; eq_refl; first | exact trivial | omega)
      | (apply X_cmpT; eq_refl; eq_refl; omega))
      refine WC_draws [(0, true), (1, true), (2, true), (3, true), (4, true), (5, true), (6, true), (7, true), (8, true)] (fun W => (∀ j u, (tcells x)[j]? = some u → W.cell? ((p.add ((i : Int).toNat * 3)).add j) = some u) ∧ (∀ j u, (tcells y)[j]? = some u → W.cell? ((q.add ((i : Int).toNat * 3)).add j) = some u)) mixed (by kernel_rfl) (by kernel_rfl) ?_
      have hS : (∀ j u, (tcells x)[j]? = some u → w1.drew.cell? ((p.add ((i : Int).toNat * 3)).add j) = some u) ∧ (∀ j u, (tcells y)[j]? = some u → w1.drew.cell? ((q.add ((i : Int).toNat * 3)).add j) = some u) := ⟨hpc, hqc⟩
      repeat' (first
      | (apply O_loadAP (tcells x); eq_refl; eq_refl; (intro _ h; exact h.1); assumption)
      | (apply O_loadAP (tcells y); eq_refl; eq_refl; (intro _ h; exact h.2); assumption)
      | (apply O_neqV guard70 hne; eq_refl; eq_refl; assumption; all_goals intro _)
      | (apply WC_seqK; intro K hK)
      | (apply hK; clear hK)
      | (apply WC_region)
      | (apply WL_nil)
      | (apply thenQ_normal)
      | (apply thenQ_ret)
      | (apply blockQ_ret)
      | (apply blockQ_normal)
      | (apply WC_ret)
      | (apply WC_skip)
      | (apply WC_if_true; eq_refl)
      | (apply WC_if_false; eq_refl)
      | (apply ret1; eq_refl)
      | (apply WS_nil)
      | (apply WS_next; eq_refl)
      | (apply WO_on0; eq_refl)
      | (apply O_pv; eq_refl; (first | exact trivial | omega); (first | assumption | exact trivial))
      | (apply O_indexP; eq_refl; eq_refl; omega; omega; (first | assumption | exact trivial))
      | (apply WL_on0; eq_refl)
      | (apply X_pv; eq_refl; first | exact trivial | omega))
      · have e2 : decide (l = m) = false := decide_eq_false fun h => by
          have hxy : x = y := by rw [← hx, ← hy]; simp only [h]
          contradiction
        rw [e2]
        exact ⟨rfl, hC1.dr⟩
      · refine ⟨i + 1, ⟨by first | rfl | (rw [hp]; rfl), by first | rfl | (rw [hq]; rfl), rfl, rfl, trivial⟩, ⟨hC1.dr, hlt, ?_⟩, by omega⟩
        have hxy : x = y := by assumption
        rw [h1, h2, heq, hxy]
    · repeat' (first
      | (apply WC_seqK; intro K hK)
      | (apply hK; clear hK)
      | (clear hK; apply hK; clear hK)
      | (apply WC_region)
      | (apply WL_nil)
      | (apply thenQ_normal)
      | (apply thenQ_exit)
      | (apply blockQ_hit)
      | (apply WC_ret)
      | (apply WC_exit)
      | (apply WC_if_false; eq_refl)
      | (apply ret1; eq_refl)
      | (apply WL_on0; eq_refl)
      | (apply X_pv; eq_refl; first | exact trivial | omega)
      | (apply X_cmpF; eq_refl; eq_refl; omega))
      rw [List.take_of_length_le (by omega), List.take_of_length_le (by omega)] at heq
      rw [heq]
      exact ⟨by simp, hC1⟩
  · have e : decide (l = m) = false := decide_eq_false fun h => hlm (by rw [h])
    rw [e]
    repeat' (first
      | (apply WC_seqK; intro K hK)
      | (apply hK; clear hK)
      | (apply WC_region)
      | (apply WL_nil)
      | (apply thenQ_normal)
      | (apply thenQ_ret)
      | (apply WC_ret)
      | (apply WC_if_true; eq_refl)
      | (apply ret1; eq_refl)
      | (apply WL_on0; eq_refl)
      | (apply X_pv; eq_refl; first | exact trivial | omega)
      | (apply X_cmpT; eq_refl; eq_refl; omega)
      | (apply X_len; eq_refl))
    exact ⟨rfl, Chg.refl _ _⟩
theorem equalAnds_cv {w : World} {A B : Option Addr} {c d : Nat} {l m : List Tri} (R : RowA w tcells 3 A l) (R' : RowA w tcells 3 B m) (hl : l.length ≤ 9223372036854775807) (hm : m.length ≤ 9223372036854775807) (hf : ∀ x ∈ l, TriFits x) (hf' : ∀ x ∈ m, TriFits x) :
    CV Try.prog 98 [.slice A l.length c, .slice B m.length d] w fun v w' => v = .bool (decide (l = m)) ∧ Chg w w' none_ := by
  refine enter 26 [4] Try.func98 rfl rfl rfl (by decide) rfl ?_
  by_cases hlm : l.length = m.length
  · have e : (m.length : Int) = l.length := by omega
    repeat' (first
      | (apply WC_seqK; intro K hK)
      | (apply hK; clear hK)
      | (apply WC_block)
      | (apply WC_region)
      | (apply WL_nil)
      | (apply thenQ_normal)
      | (apply WC_skip)
      | (apply WC_if_false; eq_refl)
      | (apply WL_on0; eq_refl)
      | (apply X_pv; eq_refl; first | exact trivial | omega)
      | (apply X_cmpF; eq_refl; eq_refl; omega)
      | (apply X_len; eq_refl))
    refine WC_loop (fun i : Nat => [(0, .slice A l.length c), (1, .slice B m.length d), (12, nu l.length), (13, nu i)]) (fun i W => Chg w W none_ ∧ i ≤ l.length ∧ l.take i = m.take i) (fun i => l.length - i) 0 ⟨rfl, rfl, rfl, rfl, trivial⟩ ⟨Chg.refl _ _, Nat.zero_le _, by simp⟩ ?_
    rintro i w1 ⟨hC1, hi, heq⟩
    rcases Nat.lt_or_ge i l.length with hlt | hge
    · have hltm : i < m.length := by omega
      obtain ⟨p, hp, hpc⟩ := (R.chg hC1) i hlt
      obtain ⟨q, hq, hqc⟩ := (R'.chg hC1) i hltm
      have h1 := List.take_succ_eq_append_getElem hlt
      have h2 := List.take_succ_eq_append_getElem hltm
      have hfx := hf _ (List.getElem_mem hlt)
      have hfy := hf' _ (List.getElem_mem hltm)
      rw [hp, hq]
      generalize hx : l[i] = x at *
      generalize hy : m[i] = y at *
      have hne := run_neq43 hfx hfy
      repeat' (first
      | (apply WC_seqK; intro K hK)
      | (apply hK; clear hK)
      | (apply WC_block)
      | (apply WC_region)
      | (apply WL_nil)
      | (apply thenQ_normal)
      | (apply WC_skip)
      | (apply WC_if_true; eq_refl)
      | (apply WL_on0; eq_refl)
      | (apply X_pv; eq_refl; first | exact trivial | omega)
      | (apply X_cmpT; eq_refl; eq_refl; omega))
      refine WC_draws [(0, true), (1, true), (2, true), (3, true), (4, true), (5, true), (6, true), (7, true), (8, true)] (fun W => (∀ j u, (tcells x)[j]? = some u → W.cell? ((p.add ((i : Int).toNat * 3)).add j) = some u) ∧ (∀ j u, (tcells y)[j]? = some u → W.cell? ((q.add ((i : Int).toNat * 3)).add j) = some u)) mixed (by kernel_rfl) (by kernel_rfl) ?_
      have hS : (∀ j u, (tcells x)[j]? = some u → w1.drew.cell? ((p.add ((i : Int).toNat * 3)).add j) = some u) ∧ (∀ j u, (tcells y)[j]? = some u → w1.drew.cell? ((q.add ((i : Int).toNat * 3)).add j) = some u) := ⟨hpc, hqc⟩
      repeat' (first
      | (apply O_loadAP (tcells x); eq_refl; eq_refl; (intro _ h; exact h.1); assumption)
      | (apply O_loadAP (tcells y); eq_refl; eq_refl; (intro _ h; exact h.2); assumption)
      | (apply O_neqV guard43 hne; eq_refl; eq_refl; assumption; all_goals intro _)
      | (apply WC_seqK; intro K hK)
      | (apply hK; clear hK)
      | (apply WC_region)
      | (apply WL_nil)
      | (apply thenQ_normal)
      | (apply thenQ_ret)
      | (apply blockQ_ret)
      | (apply blockQ_normal)
      | (apply WC_ret)
      | (apply WC_skip)
      | (apply WC_if_true; eq_refl)
      | (apply WC_if_false; eq_refl)
      | (apply ret1; eq_refl)
      | (apply WS_nil)
      | (apply WS_next; eq_refl)
      | (apply WO_on0; eq_refl)
      | (apply O_pv; eq_refl; (first | exact trivial | omega); (first | assumption | exact trivial))
      | (apply O_indexP; eq_refl; eq_refl; omega; omega; (first | assumption | exact trivial))
      | (apply WL_on0; eq_refl)
      | (apply X_pv; eq_refl; first | exact trivial | omega))
      · have e2 : decide (l = m) = false := decide_eq_false fun h => by
          have hxy : x = y := by rw [← hx, ← hy]; simp only [h]
          contradiction
        rw [e2]
        exact ⟨rfl, hC1.dr⟩
      · refine ⟨i + 1, ⟨by first | rfl | (rw [hp]; rfl), by first | rfl | (rw [hq]; rfl), rfl, rfl, trivial⟩, ⟨hC1.dr, hlt, ?_⟩, by omega⟩
        have hxy : x = y := by assumption
        rw [h1, h2, heq, hxy]
    · repeat' (first
      | (apply WC_seqK; intro K hK)
      | (apply hK; clear hK)
      | (clear hK; apply hK; clear hK)
      | (apply WC_region)
      | (apply WL_nil)
      | (apply thenQ_normal)
      | (apply thenQ_exit)
      | (apply blockQ_hit)
      | (apply WC_ret)
      | (apply WC_exit)
      | (apply WC_if_false; eq_refl)
      | (apply ret1; eq_refl)
      | (apply WL_on0; eq_refl)
      | (apply X_pv; eq_refl; first | exact trivial | omega)
      | (apply X_cmpF; eq_refl; eq_refl; omega))
      rw [List.take_of_length_le (by omega), List.take_of_length_le (by omega)] at heq
      rw [heq]
      exact ⟨by simp, hC1⟩
  · have e : decide (l = m) = false := decide_eq_false fun h => hlm (by rw [h])
    rw [e]
    repeat' (first
      | (apply WC_seqK; intro K hK)
      | (apply hK; clear hK)
      | (apply WC_region)
      | (apply WL_nil)
      | (apply thenQ_normal)
      | (apply thenQ_ret)
      | (apply WC_ret)
      | (apply WC_if_true; eq_refl)
      | (apply ret1; eq_refl)
      | (apply WL_on0; eq_refl)
      | (apply X_pv; eq_refl; first | exact trivial | omega)
      | (apply X_cmpT; eq_refl; eq_refl; omega)
      | (apply X_len; eq_refl))
    exact ⟨rfl, Chg.refl _ _⟩
theorem equalSymbols_cv {w : World} {A B : Option Addr} {c d : Nat} {l m : List Sym} (R : RowA w scells 3 A l) (R' : RowA w scells 3 B m) (hl : l.length ≤ 9223372036854775807) (hm : m.length ≤ 9223372036854775807) (hf : ∀ x ∈ l, SymFits x) (hf' : ∀ x ∈ m, SymFits x) :
    CV Try.prog 99 [.slice A l.length c, .slice B m.length d] w fun v w' => ∃ b, v = .bool b ∧ (b = true ↔ l = m) ∧ Chg w w' none_ := by
  refine enter 26 [4] Try.func99 rfl rfl rfl (by decide) rfl ?_
  by_cases hlm : l.length = m.length
  · have e : (m.length : Int) = l.length := by omega
    repeat' (first
      | (apply WC_seqK; intro K hK)
      | (apply hK; clear hK)
      | (apply WC_block)
      | (apply WC_region)
      | (apply WL_nil)
      | (apply thenQ_normal)
      | (apply WC_skip)
      | (apply WC_if_false; eq_refl)
      | (apply WL_on0; eq_refl)
      | (apply X_pv; eq_refl; first | exact trivial | omega)
      | (apply X_cmpF; eq_refl; eq_refl; omega)
      | (apply X_len; eq_refl))
    refine WC_loop (fun i : Nat => [(0, .slice A l.length c), (1, .slice B m.length d), (12, nu l.length), (13, nu i)]) (fun i W => Chg w W none_ ∧ i ≤ l.length ∧ l.take i = m.take i) (fun i => l.length - i) 0 ⟨rfl, rfl, rfl, rfl, trivial⟩ ⟨Chg.refl _ _, Nat.zero_le _, by simp⟩ ?_
    rintro i w1 ⟨hC1, hi, heq⟩
    rcases Nat.lt_or_ge i l.length with hlt | hge
    · have hltm : i < m.length := by omega
      obtain ⟨p, hp, hpc⟩ := (R.chg hC1) i hlt
      obtain ⟨q, hq, hqc⟩ := (R'.chg hC1) i hltm
      have h1 := List.take_succ_eq_append_getElem hlt
      have h2 := List.take_succ_eq_append_getElem hltm
      have hfx := hf _ (List.getElem_mem hlt)
      have hfy := hf' _ (List.getElem_mem hltm)
      rw [hp, hq]
      generalize hx : l[i] = x at *
      generalize hy : m[i] = y at *
      repeat' (first
      | (apply WC_seqK; intro K hK)
      | (apply hK; clear hK)
      | (apply WC_block)
      | (apply WC_region)
      | (apply WL_nil)
      | (apply thenQ_normal)
      | (apply WC_skip)
      | (apply WC_if_true; eq_refl)
      | (apply WL_on0; eq_refl)
      | (apply X_pv; eq_refl; first | exact trivial | omega)
      | (apply X_cmpT; eq_refl; eq_refl; omega))
      refine WC_draws [(0, true), (1, true), (2, true), (3, true), (4, true), (5, true), (6, true), (7, true), (8, true)] (fun W => (∀ j u, (scells x)[j]? = some u → W.cell? ((p.add ((i : Int).toNat * 3)).add j) = some u) ∧ (∀ j u, (scells y)[j]? = some u → W.cell? ((q.add ((i : Int).toNat * 3)).add j) = some u)) mixed (by kernel_rfl) (by kernel_rfl) ?_
      have hS : (∀ j u, (scells x)[j]? = some u → w1.drew.cell? ((p.add ((i : Int).toNat * 3)).add j) = some u) ∧ (∀ j u, (scells y)[j]? = some u → w1.drew.cell? ((q.add ((i : Int).toNat * 3)).add j) = some u) := ⟨hpc, hqc⟩
      repeat' (first
      | (apply O_loadAP (scells x); eq_refl; eq_refl; (intro _ h; exact h.1); assumption)
      | (apply O_loadAP (scells y); eq_refl; eq_refl; (intro _ h; exact h.2); assumption)
      | (apply O_neqV guard117 (run_neq117 hfx hfy); eq_refl; eq_refl; assumption; all_goals intro _)
      | (apply WC_seqK; intro K hK)
      | (apply hK; clear hK)
      | (apply WC_region)
      | (apply WL_nil)
      | (apply thenQ_normal)
      | (apply thenQ_ret)
      | (apply blockQ_ret)
      | (apply blockQ_normal)
      | (apply WC_ret)
      | (apply WC_skip)
      | (apply WC_if_true; eq_refl)
      | (apply WC_if_false; eq_refl)
      | (apply ret1; eq_refl)
      | (apply WS_nil)
      | (apply WS_next; eq_refl)
      | (apply WO_on0; eq_refl)
      | (apply O_pv; eq_refl; (first | exact trivial | omega); (first | assumption | exact trivial))
      | (apply O_indexP; eq_refl; eq_refl; omega; omega; (first | assumption | exact trivial))
      | (apply WL_on0; eq_refl)
      | (apply X_pv; eq_refl; first | exact trivial | omega))
      · refine ⟨false, rfl, ?_, hC1.dr⟩
        constructor
        · intro h; cases h
        · intro h
          have hxy : x = y := by rw [← hx, ← hy]; simp only [h]
          contradiction
      · refine ⟨i + 1, ⟨by first | rfl | (rw [hp]; rfl), by first | rfl | (rw [hq]; rfl), rfl, rfl, trivial⟩, ⟨hC1.dr, hlt, ?_⟩, by omega⟩
        have hxy : x = y := by assumption
        rw [h1, h2, heq, hxy]
    · repeat' (first
      | (apply WC_seqK; intro K hK)
      | (apply hK; clear hK)
      | (clear hK; apply hK; clear hK)
      | (apply WC_region)
      | (apply WL_nil)
      | (apply thenQ_normal)
      | (apply thenQ_exit)
      | (apply blockQ_hit)
      | (apply WC_ret)
      | (apply WC_exit)
      | (apply WC_if_false; eq_refl)
      | (apply ret1; eq_refl)
      | (apply WL_on0; eq_refl)
      | (apply X_pv; eq_refl; first | exact trivial | omega)
      | (apply X_cmpF; eq_refl; eq_refl; omega))
      rw [List.take_of_length_le (by omega), List.take_of_length_le (by omega)] at heq
      exact ⟨true, rfl, ⟨fun _ => heq, fun _ => rfl⟩, hC1⟩
  · repeat' (first
      | (apply WC_seqK; intro K hK)
      | (apply hK; clear hK)
      | (apply WC_region)
      | (apply WL_nil)
      | (apply thenQ_normal)
      | (apply thenQ_ret)
      | (apply WC_ret)
      | (apply WC_if_true; eq_refl)
      | (apply ret1; eq_refl)
      | (apply WL_on0; eq_refl)
      | (apply X_pv; eq_refl; first | exact trivial | omega)
      | (apply X_cmpT; eq_refl; eq_refl; omega)
      | (apply X_len; eq_refl))
    refine ⟨false, rfl, ⟨fun h => (by cases h), fun h => absurd (by rw [h]) hlm⟩, Chg.refl _ _⟩
theorem equalTexts_cv {w : World} {A B : Option Addr} {c d : Nat} {l m : List ByteArray} (R : RowA w bcell 1 A l) (R' : RowA w bcell 1 B m) (hl : l.length ≤ 9223372036854775807) (hm : m.length ≤ 9223372036854775807) :
    CV Try.prog 100 [.slice A l.length c, .slice B m.length d] w fun v w' => ∃ b, v = .bool b ∧ (b = true ↔ l = m) ∧ Chg w w' none_ := by
  refine enter 26 [4] Try.func100 rfl rfl rfl (by decide) rfl ?_
  by_cases hlm : l.length = m.length
  · have e : (m.length : Int) = l.length := by omega
    repeat' (first
      | (apply WC_seqK; intro K hK)
      | (apply hK; clear hK)
      | (apply WC_block)
      | (apply WC_region)
      | (apply WL_nil)
      | (apply thenQ_normal)
      | (apply WC_skip)
      | (apply WC_if_false; eq_refl)
      | (apply WL_on0; eq_refl)
      | (apply X_pv; eq_refl; first | exact trivial | omega)
      | (apply X_cmpF; eq_refl; eq_refl; omega)
      | (apply X_len; eq_refl))
    refine WC_loop (fun i : Nat => [(0, .slice A l.length c), (1, .slice B m.length d), (12, nu l.length), (13, nu i)]) (fun i W => Chg w W none_ ∧ i ≤ l.length ∧ l.take i = m.take i) (fun i => l.length - i) 0 ⟨rfl, rfl, rfl, rfl, trivial⟩ ⟨Chg.refl _ _, Nat.zero_le _, by simp⟩ ?_
    rintro i w1 ⟨hC1, hi, heq⟩
    rcases Nat.lt_or_ge i l.length with hlt | hge
    · have hltm : i < m.length := by omega
      obtain ⟨p, hp, hpc⟩ := (R.chg hC1) i hlt
      obtain ⟨q, hq, hqc⟩ := (R'.chg hC1) i hltm
      have h1 := List.take_succ_eq_append_getElem hlt
      have h2 := List.take_succ_eq_append_getElem hltm
      rw [hp, hq]
      generalize hx : l[i] = x at *
      generalize hy : m[i] = y at *
      repeat' (first
      | (apply WC_seqK; intro K hK)
      | (apply hK; clear hK)
      | (apply WC_block)
      | (apply WC_region)
      | (apply WL_nil)
      | (apply thenQ_normal)
      | (apply WC_skip)
      | (apply WC_if_true; eq_refl)
      | (apply WL_on0; eq_refl)
      | (apply X_pv; eq_refl; first | exact trivial | omega)
      | (apply X_cmpT; eq_refl; eq_refl; omega))
      refine WC_draws [(0, true), (1, true), (2, true), (3, true), (4, true), (5, true), (6, true), (7, true), (8, true)] (fun W => W.cell? (p.add ((i : Int).toNat * 1)) = some (.string x) ∧ W.cell? (q.add ((i : Int).toNat * 1)) = some (.string y)) mixed (by kernel_rfl) (by kernel_rfl) ?_
      have hS : w1.drew.cell? (p.add ((i : Int).toNat * 1)) = some (.string x) ∧ w1.drew.cell? (q.add ((i : Int).toNat * 1)) = some (.string y) := ⟨hpc 0 (.string x) rfl, hqc 0 (.string y) rfl⟩
      repeat' (first
      | (apply O_neqS; eq_refl; eq_refl; assumption; all_goals intro _)
      | (apply WC_seqK; intro K hK)
      | (apply hK; clear hK)
      | (apply WC_region)
      | (apply WL_nil)
      | (apply thenQ_normal)
      | (apply thenQ_ret)
      | (apply blockQ_ret)
      | (apply blockQ_normal)
      | (apply WC_ret)
      | (apply WC_skip)
      | (apply WC_if_true; eq_refl)
      | (apply WC_if_false; eq_refl)
      | (apply ret1; eq_refl)
      | (apply WS_nil)
      | (apply WS_next; eq_refl)
      | (apply WO_on0; eq_refl)
      | (apply O_pv; eq_refl; (first | exact trivial | omega); (first | assumption | exact trivial))
      | (apply O_loadC; eq_refl; (first | (intro _ h; exact h) | (intro _ h; exact h.1) | (intro _ h; exact h.2) | (intro _ h; exact h.2.1) | (intro _ h; exact h.2.2) | (intro _ h; exact h.2.2.1) | (intro _ h; exact h.2.2.2)); (first | assumption | exact trivial))
      | (apply O_indexP; eq_refl; eq_refl; omega; omega; (first | assumption | exact trivial))
      | (apply WL_on0; eq_refl)
      | (apply X_pv; eq_refl; first | exact trivial | omega))
      · refine ⟨false, rfl, ?_, hC1.dr⟩
        constructor
        · intro h; cases h
        · intro h
          have hxy : x = y := by rw [← hx, ← hy]; simp only [h]
          contradiction
      · refine ⟨i + 1, ⟨by first | rfl | (rw [hp]; rfl), by first | rfl | (rw [hq]; rfl), rfl, rfl, trivial⟩, ⟨hC1.dr, hlt, ?_⟩, by omega⟩
        have hxy : x = y := by assumption
        rw [h1, h2, heq, hxy]
    · repeat' (first
      | (apply WC_seqK; intro K hK)
      | (apply hK; clear hK)
      | (clear hK; apply hK; clear hK)
      | (apply WC_region)
      | (apply WL_nil)
      | (apply thenQ_normal)
      | (apply thenQ_exit)
      | (apply blockQ_hit)
      | (apply WC_ret)
      | (apply WC_exit)
      | (apply WC_if_false; eq_refl)
      | (apply ret1; eq_refl)
      | (apply WL_on0; eq_refl)
      | (apply X_pv; eq_refl; first | exact trivial | omega)
      | (apply X_cmpF; eq_refl; eq_refl; omega))
      rw [List.take_of_length_le (by omega), List.take_of_length_le (by omega)] at heq
      exact ⟨true, rfl, ⟨fun _ => heq, fun _ => rfl⟩, hC1⟩
  · repeat' (first
      | (apply WC_seqK; intro K hK)
      | (apply hK; clear hK)
      | (apply WC_region)
      | (apply WL_nil)
      | (apply thenQ_normal)
      | (apply thenQ_ret)
      | (apply WC_ret)
      | (apply WC_if_true; eq_refl)
      | (apply ret1; eq_refl)
      | (apply WL_on0; eq_refl)
      | (apply X_pv; eq_refl; first | exact trivial | omega)
      | (apply X_cmpT; eq_refl; eq_refl; omega)
      | (apply X_len; eq_refl))
    refine ⟨false, rfl, ⟨fun h => (by cases h), fun h => absurd (by rw [h]) hlm⟩, Chg.refl _ _⟩
end SC
end Go.Proofs.Ytkndegjodnciaaa
end
section
/- slices.EqualFunc at lists of lists; shape's Same. -/
set_option linter.unusedVariables false
set_option linter.unusedSimpArgs false
namespace Go.Proofs.Ytkndegjodnciaaa
namespace SC
open Go.Proofs
attribute [local irreducible] WC WL WX WS WO OX Does DoesU Enters CV Pure thenQ blockQ retQ Wants retQC
set_option maxRecDepth 100000
theorem equalLists_cv {w : World} {A B : Option Addr} {c d : Nat} {l m : List (List Int)} {js ks : Hd} (R : JusAt w A l js) (R' : JusAt w B m ks) (hl : l.length ≤ 9223372036854775807) (hm : m.length ≤ 9223372036854775807)
    (he : ∀ k (hk : k < l.length), RowA w icell 1 (js k).1 l[k]) (he' : ∀ k (hk : k < m.length), RowA w icell 1 (ks k).1 m[k]) (hb : ∀ x ∈ l, x.length ≤ 9223372036854775807) (hb' : ∀ x ∈ m, x.length ≤ 9223372036854775807) :
    CV Try.prog 95 [.slice A l.length c, .slice B m.length d, .func (.func 96) #[] #[]] w fun v w' => ∃ b, v = .bool b ∧ (b = true ↔ l = m) ∧ Chg w w' none_ := by
  refine enter 32 [6] Try.func95 rfl rfl rfl (by decide) rfl ?_
  by_cases hlm : l.length = m.length
  · have e : (m.length : Int) = l.length := by omega
    repeat' (first
      | (apply WC_seqK; intro K hK)
      | (apply hK; clear hK)
      | (apply WC_block)
      | (apply WC_region)
      | (apply WL_nil)
      | (apply thenQ_normal)
      | (apply WC_skip)
      | (apply WC_if_false; eq_refl)
      | (apply WL_on0; eq_refl)
      | (apply X_pv; eq_refl; first | exact trivial | omega)
      | (apply X_cmpF; eq_refl; eq_refl; omega)
      | (apply X_len; eq_refl))
    refine WC_loop (fun i : Nat => [(0, .slice A l.length c), (1, .slice B m.length d), (2, .func (.func 96) #[] #[]), (15, .slice A l.length c), (16, nu l.length), (17, nu i)]) (fun i W => Chg w W none_ ∧ i ≤ l.length ∧ l.take i = m.take i) (fun i => l.length - i) 0 ⟨rfl, rfl, rfl, rfl, rfl, rfl, trivial⟩ ⟨Chg.refl _ _, Nat.zero_le _, by simp⟩ ?_
    rintro i w1 ⟨hC1, hi, heq⟩
    rcases Nat.lt_or_ge i l.length with hlt | hge
    · have hltm : i < m.length := by omega
      obtain ⟨p, hp, hpc⟩ := R i hlt
      obtain ⟨q, hq, hqc⟩ := R' i hltm
      have h1 := List.take_succ_eq_append_getElem hlt
      have h2 := List.take_succ_eq_append_getElem hltm
      have hsi := equalInts_cv (c := (js i).2) (d := (ks i).2) ((he i hlt).chg hC1) ((he' i hltm).chg hC1) (hb _ (List.getElem_mem hlt)) (hb' _ (List.getElem_mem hltm))
      have hpc1 := cel_chg hpc hC1 id
      have hqc1 := cel_chg hqc hC1 id
      rw [hp, hq]
      generalize hx : l[i] = x at *
      generalize hy : m[i] = y at *
      by_cases hxy : x = y
      · rw [decide_eq_true hxy] at hsi
        repeat' (first
      | (apply X_clo (f := 96); eq_refl; eq_refl; exact hsi; rintro _ w3 ⟨rfl, hC3⟩)
      | (apply WC_seqK; intro K hK)
      | (apply hK; clear hK)
      | (apply WC_block)
      | (apply WC_region)
      | (apply WL_nil)
      | (apply thenQ_normal)
      | (apply blockQ_normal)
      | (apply WC_skip)
      | (apply WC_if_true; eq_refl)
      | (apply WC_if_false; eq_refl)
      | (apply WL_on0; eq_refl)
      | (apply X_pv; eq_refl; first | exact trivial | omega)
      | (apply X_loadC; eq_refl; (first | assumption | (apply cel; first | assumption | (apply cel; assumption))))
      | (apply X_cmpT; eq_refl; eq_refl; omega)
      | (apply X_indexP; eq_refl; eq_refl; omega; omega))
        exact ⟨i + 1, ⟨by first | rfl | (rw [hp]; rfl), by first | rfl | (rw [hq]; rfl), rfl, by first | rfl | (rw [hp]; rfl), rfl, rfl, trivial⟩, ⟨hC1.trans hC3 fun _ _ h => h, hlt, by rw [h1, h2, heq, hxy]⟩, by omega⟩
      · rw [decide_eq_false hxy] at hsi
        repeat' (first
      | (apply X_clo (f := 96); eq_refl; eq_refl; exact hsi; rintro _ w3 ⟨rfl, hC3⟩)
      | (apply WC_seqK; intro K hK)
      | (apply hK; clear hK)
      | (apply WC_block)
      | (apply WC_region)
      | (apply WL_nil)
      | (apply thenQ_normal)
      | (apply thenQ_ret)
      | (apply blockQ_ret)
      | (apply WC_ret)
      | (apply WC_skip)
      | (apply WC_if_true; eq_refl)
      | (apply ret1; eq_refl)
      | (apply WL_on0; eq_refl)
      | (apply X_pv; eq_refl; first | exact trivial | omega)
      | (apply X_loadC; eq_refl; (first | assumption | (apply cel; first | assumption | (apply cel; assumption))))
      | (apply X_cmpT; eq_refl; eq_refl; omega)
      | (apply X_indexP; eq_refl; eq_refl; omega; omega))
        refine ⟨false, rfl, ⟨fun h => (by cases h), fun h => absurd ?_ hxy⟩, hC1.trans hC3 fun _ _ h => h⟩
        rw [← hx, ← hy]; simp only [h]
    · repeat' (first
      | (apply WC_seqK; intro K hK)
      | (apply hK; clear hK)
      | (clear hK; apply hK; clear hK)
      | (apply WC_region)
      | (apply WL_nil)
      | (apply thenQ_normal)
      | (apply thenQ_exit)
      | (apply blockQ_hit)
      | (apply WC_ret)
      | (apply WC_exit)
      | (apply WC_if_false; eq_refl)
      | (apply ret1; eq_refl)
      | (apply WL_on0; eq_refl)
      | (apply X_pv; eq_refl; first | exact trivial | omega)
      | (apply X_cmpF; eq_refl; eq_refl; omega))
      rw [List.take_of_length_le (by omega), List.take_of_length_le (by omega)] at heq
      exact ⟨true, rfl, ⟨fun _ => heq, fun _ => rfl⟩, hC1⟩
  · repeat' (first
      | (apply WC_seqK; intro K hK)
      | (apply hK; clear hK)
      | (apply WC_region)
      | (apply WL_nil)
      | (apply thenQ_normal)
      | (apply thenQ_ret)
      | (apply WC_ret)
      | (apply WC_if_true; eq_refl)
      | (apply ret1; eq_refl)
      | (apply WL_on0; eq_refl)
      | (apply X_pv; eq_refl; first | exact trivial | omega)
      | (apply X_cmpT; eq_refl; eq_refl; omega)
      | (apply X_len; eq_refl))
    refine ⟨false, rfl, ⟨fun h => (by cases h), fun h => absurd (by rw [h]) hlm⟩, Chg.refl _ _⟩
theorem Same_cv {w : World} {c d : Circ} {h k js ks : Hd} (H : CirAt w c h js) (H' : CirAt w d k ks) (hc : c.Okay) (hd : d.Okay) : CV Try.prog 35 [.agg (ccells c h).toArray, .agg (ccells d k).toArray] w fun v w' => ∃ b, v = .bool b ∧ (b = true ↔ c = d) ∧ Chg w w' none_ := by
  have hC0 : Chg w ((w.alloc (.cells (ccells c h).toArray 51)).alloc (.cells (ccells d k).toArray 51)) none_ := (Chg.alloc w _ none_).al _
  have hA : ∀ W, Chg ((w.alloc (.cells (ccells c h).toArray 51)).alloc (.cells (ccells d k).toArray 51)) W none_ → Blk W w.heap.size 51 (ccells c h) := fun W hW => (Blk.alloc _ (Blk.new w _ _)).chg hW id
  have hB : ∀ W, Chg ((w.alloc (.cells (ccells c h).toArray 51)).alloc (.cells (ccells d k).toArray 51)) W none_ → Blk W (w.alloc (.cells (ccells c h).toArray 51)).heap.size 51 (ccells d k) := fun W hW => (Blk.new (w.alloc (.cells (ccells c h).toArray 51)) (ccells d k) 51).chg hW id
  have hr := Chg.refl ((w.alloc (.cells (ccells c h).toArray 51)).alloc (.cells (ccells d k).toArray 51)) none_
  have lc : ∀ n : Nat, (n : Int) ∈ c.lens → n ≤ 9223372036854775807 := fun n hn => by have := hc.lens _ hn; omega
  have ld : ∀ n : Nat, (n : Int) ∈ d.lens → n ≤ 9223372036854775807 := fun n hn => by have := hd.lens _ hn; omega
  have s1 : ∀ W, Chg ((w.alloc (.cells (ccells c h).toArray 51)).alloc (.cells (ccells d k).toArray 51)) W none_ → CV Try.prog 96 [.slice (h 1).1 c.inputs.length (h 1).2, .slice (k 1).1 d.inputs.length (k 1).2] W fun v w' => ∃ b, v = .bool b ∧ (b = true ↔ c.inputs = d.inputs) ∧ Chg W w' none_ := fun W hW =>
    (equalInts_cv ((H.chg hC0).chg hW).inputs ((H'.chg hC0).chg hW).inputs (lc _ (by simp [Circ.lens])) (ld _ (by simp [Circ.lens]))).boolI
  have s2 : ∀ W, Chg ((w.alloc (.cells (ccells c h).toArray 51)).alloc (.cells (ccells d k).toArray 51)) W none_ → CV Try.prog 97 [.slice (h 2).1 c.latches.length (h 2).2, .slice (k 2).1 d.latches.length (k 2).2] W fun v w' => ∃ b, v = .bool b ∧ (b = true ↔ c.latches = d.latches) ∧ Chg W w' none_ := fun W hW =>
    (equalLatches_cv ((H.chg hC0).chg hW).latches ((H'.chg hC0).chg hW).latches (lc _ (by simp [Circ.lens])) (ld _ (by simp [Circ.lens])) hc.latches hd.latches).boolI
  have s3 : ∀ W, Chg ((w.alloc (.cells (ccells c h).toArray 51)).alloc (.cells (ccells d k).toArray 51)) W none_ → CV Try.prog 96 [.slice (h 3).1 c.outputs.length (h 3).2, .slice (k 3).1 d.outputs.length (k 3).2] W fun v w' => ∃ b, v = .bool b ∧ (b = true ↔ c.outputs = d.outputs) ∧ Chg W w' none_ := fun W hW =>
    (equalInts_cv ((H.chg hC0).chg hW).outputs ((H'.chg hC0).chg hW).outputs (lc _ (by simp [Circ.lens])) (ld _ (by simp [Circ.lens]))).boolI
  have s4 : ∀ W, Chg ((w.alloc (.cells (ccells c h).toArray 51)).alloc (.cells (ccells d k).toArray 51)) W none_ → CV Try.prog 96 [.slice (h 4).1 c.bads.length (h 4).2, .slice (k 4).1 d.bads.length (k 4).2] W fun v w' => ∃ b, v = .bool b ∧ (b = true ↔ c.bads = d.bads) ∧ Chg W w' none_ := fun W hW =>
    (equalInts_cv ((H.chg hC0).chg hW).bads ((H'.chg hC0).chg hW).bads (lc _ (by simp [Circ.lens])) (ld _ (by simp [Circ.lens]))).boolI
  have s5 : ∀ W, Chg ((w.alloc (.cells (ccells c h).toArray 51)).alloc (.cells (ccells d k).toArray 51)) W none_ → CV Try.prog 96 [.slice (h 5).1 c.constraints.length (h 5).2, .slice (k 5).1 d.constraints.length (k 5).2] W fun v w' => ∃ b, v = .bool b ∧ (b = true ↔ c.constraints = d.constraints) ∧ Chg W w' none_ := fun W hW =>
    (equalInts_cv ((H.chg hC0).chg hW).constraints ((H'.chg hC0).chg hW).constraints (lc _ (by simp [Circ.lens])) (ld _ (by simp [Circ.lens]))).boolI
  have s6 : ∀ W, Chg ((w.alloc (.cells (ccells c h).toArray 51)).alloc (.cells (ccells d k).toArray 51)) W none_ → CV Try.prog 95 [.slice (h 6).1 c.justice.length (h 6).2, .slice (k 6).1 d.justice.length (k 6).2, .func (.func 96) #[] #[]] W fun v w' => ∃ b, v = .bool b ∧ (b = true ↔ c.justice = d.justice) ∧ Chg W w' none_ := fun W hW =>
    equalLists_cv ((H.chg hC0).chg hW).justice ((H'.chg hC0).chg hW).justice (lc _ (by simp [Circ.lens])) (ld _ (by simp [Circ.lens])) ((H.chg hC0).chg hW).each ((H'.chg hC0).chg hW).each hc.just hd.just
  have s7 : ∀ W, Chg ((w.alloc (.cells (ccells c h).toArray 51)).alloc (.cells (ccells d k).toArray 51)) W none_ → CV Try.prog 96 [.slice (h 7).1 c.fairness.length (h 7).2, .slice (k 7).1 d.fairness.length (k 7).2] W fun v w' => ∃ b, v = .bool b ∧ (b = true ↔ c.fairness = d.fairness) ∧ Chg W w' none_ := fun W hW =>
    (equalInts_cv ((H.chg hC0).chg hW).fairness ((H'.chg hC0).chg hW).fairness (lc _ (by simp [Circ.lens])) (ld _ (by simp [Circ.lens]))).boolI
  have s8 : ∀ W, Chg ((w.alloc (.cells (ccells c h).toArray 51)).alloc (.cells (ccells d k).toArray 51)) W none_ → CV Try.prog 98 [.slice (h 8).1 c.ands.length (h 8).2, .slice (k 8).1 d.ands.length (k 8).2] W fun v w' => ∃ b, v = .bool b ∧ (b = true ↔ c.ands = d.ands) ∧ Chg W w' none_ := fun W hW =>
    (equalAnds_cv ((H.chg hC0).chg hW).ands ((H'.chg hC0).chg hW).ands (lc _ (by simp [Circ.lens])) (ld _ (by simp [Circ.lens])) hc.ands hd.ands).boolI
  have s9 : ∀ W, Chg ((w.alloc (.cells (ccells c h).toArray 51)).alloc (.cells (ccells d k).toArray 51)) W none_ → CV Try.prog 99 [.slice (h 9).1 c.symbols.length (h 9).2, .slice (k 9).1 d.symbols.length (k 9).2] W fun v w' => ∃ b, v = .bool b ∧ (b = true ↔ c.symbols = d.symbols) ∧ Chg W w' none_ := fun W hW =>
    equalSymbols_cv ((H.chg hC0).chg hW).symbols ((H'.chg hC0).chg hW).symbols (lc _ (by simp [Circ.lens])) (ld _ (by simp [Circ.lens])) hc.symbols hd.symbols
  have s10 : ∀ W, Chg ((w.alloc (.cells (ccells c h).toArray 51)).alloc (.cells (ccells d k).toArray 51)) W none_ → CV Try.prog 100 [.slice (h 10).1 c.comments.length (h 10).2, .slice (k 10).1 d.comments.length (k 10).2] W fun v w' => ∃ b, v = .bool b ∧ (b = true ↔ c.comments = d.comments) ∧ Chg W w' none_ := fun W hW =>
    equalTexts_cv ((H.chg hC0).chg hW).comments ((H'.chg hC0).chg hW).comments (lc _ (by simp [Circ.lens])) (ld _ (by simp [Circ.lens]))
  refine enter 81 [4] Try.func35 rfl rfl rfl (by decide) rfl ?_
  repeat' (first
      | (apply X_loadR; eq_refl; (apply hA; assumption); eq_refl)
      | (apply X_loadR; eq_refl; (apply hB; assumption); eq_refl)
      | (apply X_fn; eq_refl; (first | (apply s1; assumption) | (apply s2; assumption) | (apply s3; assumption) | (apply s4; assumption) | (apply s5; assumption) | (apply s6; assumption) | (apply s7; assumption) | (apply s8; assumption) | (apply s9; assumption) | (apply s10; assumption)); rintro _ W ⟨b, rfl, hb, hE⟩; have hD := Chg.trans (by assumption) hE (fun _ _ h => h); cases b)
      | (apply WC_seqK; intro K hK)
      | (apply hK; clear hK)
      | (apply WC_region)
      | (apply WL_nil)
      | (apply thenQ_normal)
      | (apply thenQ_ret)
      | (apply WC_ret)
      | (apply WC_skip)
      | (apply WC_if_true; eq_refl)
      | (apply WC_if_false; eq_refl)
      | (apply ret1; eq_refl)
      | (apply WL_on0; eq_refl)
      | (apply WL_onG; eq_refl; eq_refl; eq_refl; eq_refl)
      | (apply WL_noG; eq_refl; eq_refl; eq_refl; eq_refl)
      | (apply X_pv; eq_refl; first | exact trivial | omega)
      | (apply X_field; eq_refl)
      | (apply X_cmp; eq_refl; eq_refl; all_goals intro _)
      | (apply X_box; eq_refl))
  all_goals
    first
    | exact ⟨true, rfl, ⟨fun _ => Circ.same (by first | assumption | omega) ((by assumption : true = true ↔ c.inputs = d.inputs).1 rfl) ((by assumption : true = true ↔ c.latches = d.latches).1 rfl) ((by assumption : true = true ↔ c.outputs = d.outputs).1 rfl) ((by assumption : true = true ↔ c.bads = d.bads).1 rfl) ((by assumption : true = true ↔ c.constraints = d.constraints).1 rfl) ((by assumption : true = true ↔ c.justice = d.justice).1 rfl) ((by assumption : true = true ↔ c.fairness = d.fairness).1 rfl) ((by assumption : true = true ↔ c.ands = d.ands).1 rfl) ((by assumption : true = true ↔ c.symbols = d.symbols).1 rfl) ((by assumption : true = true ↔ c.comments = d.comments).1 rfl), fun _ => rfl⟩, hC0.trans (by assumption) fun _ _ h => h⟩
    | refine ⟨false, rfl, ⟨fun h => (by cases h), fun hcd => ?_⟩, hC0.trans (by assumption) fun _ _ h => h⟩
      first
      | exact absurd (congrArg Circ.max hcd) (by first | assumption | omega)
      | exact absurd ((by assumption : false = true ↔ c.inputs = d.inputs).2 (congrArg Circ.inputs hcd)) (by decide)
      | exact absurd ((by assumption : false = true ↔ c.latches = d.latches).2 (congrArg Circ.latches hcd)) (by decide)
      | exact absurd ((by assumption : false = true ↔ c.outputs = d.outputs).2 (congrArg Circ.outputs hcd)) (by decide)
      | exact absurd ((by assumption : false = true ↔ c.bads = d.bads).2 (congrArg Circ.bads hcd)) (by decide)
      | exact absurd ((by assumption : false = true ↔ c.constraints = d.constraints).2 (congrArg Circ.constraints hcd)) (by decide)
      | exact absurd ((by assumption : false = true ↔ c.justice = d.justice).2 (congrArg Circ.justice hcd)) (by decide)
      | exact absurd ((by assumption : false = true ↔ c.fairness = d.fairness).2 (congrArg Circ.fairness hcd)) (by decide)
      | exact absurd ((by assumption : false = true ↔ c.ands = d.ands).2 (congrArg Circ.ands hcd)) (by decide)
      | exact absurd ((by assumption : false = true ↔ c.symbols = d.symbols).2 (congrArg Circ.symbols hcd)) (by decide)
      | exact absurd ((by assumption : false = true ↔ c.comments = d.comments).2 (congrArg Circ.comments hcd)) (by decide)
end SC
end Go.Proofs.Ytkndegjodnciaaa
end
section
/- trestlebook: SpoilCircuit. -/
set_option linter.unusedVariables false
set_option linter.unusedSimpArgs false
namespace Go.Proofs.Ytkndegjodnciaaa
namespace SC
open Go.Proofs
/-- Rows of which some are still as they were told. -/
def SpRows (W : World) (lo : Nat) (f : Nat → Rw) (D : Nat → Prop) : Prop := ∃ f', Rows W lo f' ∧ ∀ q, D q → f' q = f q
theorem SpRows.mono {W : World} {lo : Nat} {f : Nat → Rw} {D D' : Nat → Prop} (h : SpRows W lo f D) (hD : ∀ q, D' q → D q) : SpRows W lo f D' := by
  obtain ⟨f', hR, hf⟩ := h
  exact ⟨f', hR, fun q hq => hf q (hD q hq)⟩
theorem SpRows.same {W W' : World} {lo : Nat} {f : Nat → Rw} {D : Nat → Prop} (h : SpRows W lo f D) (hc : Chg W W' none_) : SpRows W' lo f D := by
  obtain ⟨f', hR, hf⟩ := h
  exact ⟨f', hR.same hc, hf⟩
theorem SpRows.own {W : World} {lo : Nat} {f : Nat → Rw} {D : Nat → Prop} (h : SpRows W lo f D) {i : Nat} (hi : D i) : (f i).own W lo := by
  obtain ⟨f', hR, hf⟩ := h
  rw [← hf i hi]
  exact hR.own i
theorem SpRows.drop {W W' : World} {lo : Nat} {f : Nat → Rw} {D : Nat → Prop} {T : Nat → Prop} (h : SpRows W lo f D) {i : Nat} (hi : D i) (hc : Chg W W' T) (hT : ∀ k, T k → (f i).v.ownBlock = some k) : SpRows W' lo f (fun q => D q ∧ q ≠ i) := by
  obtain ⟨f', hR, hf⟩ := h
  refine ⟨upd f' i nilRw, hR.put i nilRw hc (fun j k hj hk hh => ?_) (World.ownsRow_nil _ _ _ _) (fun k hk => by cases hk), fun q hq => ?_⟩
  · have := hT k hh
    rw [← hf i hi] at this
    exact hR.apart j i k hj hk this
  · unfold upd
    rw [if_neg hq.2]
    exact hf q hq.1
theorem SpRows.set {W : World} {lo : Nat} {f : Nat → Rw} {D : Nat → Prop} (h : SpRows W lo f D) {i g n cap : Nat} {t : TypeId} {sz : Nat} {xs : List Value} (hi : D i) (hv : f i = ⟨.slice (some ⟨g, 0, none⟩) n cap, t, sz, n, xs⟩) :
    ∃ cur : List Value, Blk W g t cur ∧ n * sz ≤ cur.length ∧ lo ≤ g ∧ ∀ cur' : List Value, cur'.length = cur.length → ∃ xs', SpRows (W.setRow g cur'.toArray) lo (upd f i ⟨.slice (some ⟨g, 0, none⟩) n cap, t, sz, n, xs'⟩) D := by
  obtain ⟨f', hR, hf⟩ := h
  have ho := hR.own i
  rw [hf i hi, hv] at ho
  obtain ⟨cur, h1, h2, h3, h4, h5⟩ := own_set ho
  refine ⟨cur, h1, h3, h4, fun cur' hl => ⟨cur'.take (n * sz), upd f' i ⟨.slice (some ⟨g, 0, none⟩) n cap, t, sz, n, cur'.take (n * sz)⟩, hR.put i _ (Chg.setRow W g cur'.toArray (S := fun k => k = g) rfl) (fun j k hj hk hh => ?_) (h5 cur' hl) (fun k hk => ?_), fun q hq => ?_⟩⟩
  · have : (f' i).v.ownBlock = some k := by rw [hf i hi, hv]; simp [Value.ownBlock, hh]
    exact hR.apart j i k hj hk this
  · left
    rw [hf i hi, hv]
    exact hk
  · unfold upd
    split
    · rfl
    · exact hf q hq
theorem upd_updM (f : Nat → Rw) (i : Nat) (r r' : Rw) : upd (upd f i r) i r' = upd f i r' := by
  funext j
  unfold upd
  split <;> rfl
theorem upd_at (f : Nat → Rw) (i : Nat) (r : Rw) : upd f i r i = r := by unfold upd; rw [if_pos rfl]
theorem SpRows.back {W : World} {lo : Nat} {f : Nat → Rw} {D : Nat → Prop} {i : Nat} {r : Rw} (h : SpRows W lo (upd f i r) D) : SpRows W lo f (fun q => D q ∧ q ≠ i) := by
  obtain ⟨f', hR, hf⟩ := h
  exact ⟨f', hR, fun q hq => by rw [hf q hq.1]; unfold upd; rw [if_neg hq.2]⟩
/-- How far a circuit is spoilt. -/
structure SpSt (w W : World) (lo : Nat) (T : Nat → Prop) (b : Nat) (c : Circ) (h : Hd) (f : Nat → Rw) (D : Nat → Prop) : Prop where
  chg : Chg w W T
  box : Blk W b 51 (ccells c h)
  rows : SpRows W lo f D
theorem SpSt.spoil {w W W' : World} {lo b : Nat} {T : Nat → Prop} {c : Circ} {h : Hd} {f : Nat → Rw} {D : Nat → Prop} (S : SpSt w W lo T b c h f D) (hb : ∀ i k, (f i).v.ownBlock = some k → T k ∧ k < b) {i : Nat} (hD : D i) (hc : Chg W W' (fun k => (f i).v.ownBlock = some k)) : SpSt w W' lo T b c h f (fun q => D q ∧ q ≠ i) :=
  ⟨S.chg.trans hc fun k hk hh => (hb i k hh).1, S.box.chg hc fun hh => by have := (hb i b hh).2; omega, S.rows.drop hD hc fun _ h => h⟩
theorem SpSt.mono {w W : World} {lo b : Nat} {T : Nat → Prop} {c : Circ} {h : Hd} {f : Nat → Rw} {D D' : Nat → Prop} (S : SpSt w W lo T b c h f D) (hD : ∀ q, D' q → D q) : SpSt w W lo T b c h f D' := ⟨S.chg, S.box, S.rows.mono hD⟩
theorem splice_lenP (cs vs : List Value) (o : Nat) (h : o + vs.length ≤ cs.length) : (splice cs o vs).length = cs.length := by
  unfold splice
  simp only [List.length_append, List.length_take, List.length_drop]
  omega
attribute [local irreducible] WC WL WX WS WO OX Does DoesU Enters CV Pure thenQ blockQ retQ Wants retQC
set_option maxRecDepth 100000
theorem spoilCircuit_cv {w : World} {lo : Nat} {c : Circ} {h js : Hd} {mark : Int} (H : CirOwn w lo c h js) (hf : c.Okay) :
    CV Try.prog 36 [.agg (ccells c h).toArray, nu mark] w fun v w' => Chg w w' (fun k => ∃ i, (cirRows c h js js c.justice.length i).v.ownBlock = some k) := by
  have hb : ∀ i k, (cirRows c h js js c.justice.length i).v.ownBlock = some k → (∃ i, (cirRows c h js js c.justice.length i).v.ownBlock = some k) ∧ k < w.heap.size := fun i k hk => ⟨⟨i, hk⟩, (H.lt hk).2⟩
  have hS0 : SpSt w (w.alloc (.cells (ccells c h).toArray 51)) lo (fun k => ∃ i, (cirRows c h js js c.justice.length i).v.ownBlock = some k) w.heap.size c h (cirRows c h js js c.justice.length) (fun _ => True) :=
    ⟨Chg.alloc w _ _, Blk.new w _ _, ⟨_, H.same (Chg.alloc w _ none_), fun _ _ => rfl⟩⟩
  have hlens := hf.lens
  simp only [Circ.lens, List.mem_cons, List.not_mem_nil, or_false] at hlens
  have k2 := hlens _ (.inr (.inl rfl))
  have k6 := hlens _ (.inr (.inr (.inr (.inr (.inr (.inl rfl))))))
  have k8 := hlens _ (.inr (.inr (.inr (.inr (.inr (.inr (.inr (.inl rfl))))))))
  have k9 := hlens _ (.inr (.inr (.inr (.inr (.inr (.inr (.inr (.inr (.inl rfl)))))))))
  have k10 := hlens _ (.inr (.inr (.inr (.inr (.inr (.inr (.inr (.inr (.inr rfl)))))))))
  clear hlens
  refine enter 92 [] Try.func36 rfl rfl rfl (by decide) rfl ?_
  have hbox0 := hS0.box
  repeat' (first
      | (apply X_fn; eq_refl; (exact spoil_cv (hS0.rows.own (i := 1) trivial)); intro v1 w1 hE1)
      | (apply WC_seqK; intro K hK)
      | (apply hK; clear hK)
      | (apply WC_region)
      | (apply WL_nil)
      | (apply thenQ_normal)
      | (apply WL_on0; eq_refl)
      | (apply X_pv; eq_refl; first | exact trivial | omega)
      | (apply X_field; eq_refl)
      | (apply X_loadR; eq_refl; (first | assumption | (apply Blk.alloc; assumption) | apply Blk.new | apply Blk.newA | (apply Blk.alloc; first | apply Blk.newA | (apply Blk.alloc; first | assumption | apply Blk.newA))); eq_refl)
      | (apply X_box; eq_refl))
  have hS1 := hS0.spoil hb (i := 1) trivial hE1
  have hbox1 := hS1.box
  clear hS0 hbox0 hE1
  repeat' (first
      | (apply X_fn; eq_refl; (exact spoil_cv (hS1.rows.own (i := 3) ⟨trivial, by decide⟩)); intro v2 w2 hE2)
      | (apply WC_seqK; intro K hK)
      | (apply hK; clear hK)
      | (apply WC_region)
      | (apply WL_nil)
      | (apply thenQ_normal)
      | (apply WL_on0; eq_refl)
      | (apply X_pv; eq_refl; first | exact trivial | omega)
      | (apply X_field; eq_refl)
      | (apply X_loadR; eq_refl; (first | assumption | (apply Blk.alloc; assumption) | apply Blk.new | apply Blk.newA | (apply Blk.alloc; first | apply Blk.newA | (apply Blk.alloc; first | assumption | apply Blk.newA))); eq_refl))
  have hS2 := (hS1.spoil hb (i := 3) ⟨trivial, by decide⟩ hE2).mono (D' := fun q => q ≠ 1 ∧ q ≠ 3) fun q hq => ⟨⟨trivial, hq.1⟩, hq.2⟩
  have hbox2 := hS2.box
  clear hS1 hbox1 hE2
  repeat' (first
      | (apply X_fn; eq_refl; (exact spoil_cv (hS2.rows.own (i := 4) (by decide))); intro v3 w3 hE3)
      | (apply WC_seqK; intro K hK)
      | (apply hK; clear hK)
      | (apply WC_region)
      | (apply WL_nil)
      | (apply thenQ_normal)
      | (apply WL_on0; eq_refl)
      | (apply X_pv; eq_refl; first | exact trivial | omega)
      | (apply X_field; eq_refl)
      | (apply X_loadR; eq_refl; (first | assumption | (apply Blk.alloc; assumption) | apply Blk.new | apply Blk.newA | (apply Blk.alloc; first | apply Blk.newA | (apply Blk.alloc; first | assumption | apply Blk.newA))); eq_refl))
  have hS3 := (hS2.spoil hb (i := 4) (by decide) hE3).mono (D' := fun q => q ≠ 1 ∧ q ≠ 3 ∧ q ≠ 4) fun q hq => ⟨⟨hq.1, hq.2.1⟩, hq.2.2⟩
  have hbox3 := hS3.box
  clear hS2 hbox2 hE3
  repeat' (first
      | (apply X_fn; eq_refl; (exact spoil_cv (hS3.rows.own (i := 5) (by decide))); intro v4 w4 hE4)
      | (apply WC_seqK; intro K hK)
      | (apply hK; clear hK)
      | (apply WC_region)
      | (apply WL_nil)
      | (apply thenQ_normal)
      | (apply WL_on0; eq_refl)
      | (apply X_pv; eq_refl; first | exact trivial | omega)
      | (apply X_field; eq_refl)
      | (apply X_loadR; eq_refl; (first | assumption | (apply Blk.alloc; assumption) | apply Blk.new | apply Blk.newA | (apply Blk.alloc; first | apply Blk.newA | (apply Blk.alloc; first | assumption | apply Blk.newA))); eq_refl))
  have hS4 := (hS3.spoil hb (i := 5) (by decide) hE4).mono (D' := fun q => q ≠ 1 ∧ q ≠ 3 ∧ q ≠ 4 ∧ q ≠ 5) fun q hq => ⟨⟨hq.1, hq.2.1, hq.2.2.1⟩, hq.2.2.2⟩
  have hbox4 := hS4.box
  clear hS3 hbox3 hE4
  repeat' (first
      | (apply X_fn; eq_refl; (exact spoil_cv (hS4.rows.own (i := 7) (by decide))); intro v5 w5 hE5)
      | (apply WC_seqK; intro K hK)
      | (apply hK; clear hK)
      | (apply WC_block)
      | (apply WC_region)
      | (apply WL_nil)
      | (apply thenQ_normal)
      | (apply WL_on0; eq_refl)
      | (apply X_pv; eq_refl; first | exact trivial | omega)
      | (apply X_loadR; eq_refl; (first | assumption | (apply Blk.alloc; assumption) | apply Blk.new | apply Blk.newA | (apply Blk.alloc; first | apply Blk.newA | (apply Blk.alloc; first | assumption | apply Blk.newA))); eq_refl))
  have hS5 := (hS4.spoil hb (i := 7) (by decide) hE5).mono (D' := fun q => q = 2 ∨ q = 6 ∨ q = 8 ∨ q = 9 ∨ q = 10 ∨ 11 + 0 ≤ q) fun q hq => ⟨⟨by omega, by omega, by omega, by omega⟩, by omega⟩
  clear hS4 hbox4 hE5
  refine WC_loop (fun i : Nat => [(1, nu mark), (2, pt w.heap.size), (4, nu i)]) (fun i W => SpSt w W lo (fun k => ∃ i, (cirRows c h js js c.justice.length i).v.ownBlock = some k) w.heap.size c h (cirRows c h js js c.justice.length) (fun q => q = 2 ∨ q = 6 ∨ q = 8 ∨ q = 9 ∨ q = 10 ∨ 11 + i ≤ q) ∧ i ≤ c.justice.length) (fun i => c.justice.length - i) 0 ⟨rfl, rfl, rfl, trivial⟩ ⟨hS5, Nat.zero_le _⟩ ?_
  clear hS5 w5
  rintro i w5 ⟨hS5, hi5⟩
  have hbox5 := hS5.box
  rcases Nat.lt_or_ge i c.justice.length with hlt | hge
  · have h6 := hS5.rows.own (i := 6) (.inr (.inl rfl))
    have hj := hS5.rows.own (i := i + 11) (by omega)
    simp only [Rw.own, cirRows, if_pos hlt] at hj
    have hd : c.justice.getD i [] = c.justice[i] := by simp [hlt]
    rw [hd] at hj
    obtain ⟨p, hp, hpc⟩ : ∃ p, (h 6).1 = some p ∧ w5.cell? (p.add ((i : Int).toNat * 1)) = some (.slice (js i).1 c.justice[i].length (js i).2) := by
      simp only [Rw.own, cirRows] at h6
      rcases h6.2 with ⟨hv, hn⟩ | ⟨g, cap, cur, hv, hb, hg, rest⟩
      · omega
      · simp only [slc, Value.slice.injEq] at hv
        refine ⟨⟨g, 0, none⟩, hv.1, ?_⟩
        have := h6.cells (g := g) (by simp [slc, hv.1, Value.ownBlock]) i (slc js i c.justice[i].length) (by simp [hlt])
        rw [show (i : Int).toNat * 1 = i by omega]
        exact this
    have e6 : (ccells c h)[0 + 6]? = some (.slice (some p) c.justice.length (h 6).2) := by rw [← hp]; rfl
    repeat' (first
      | (apply X_loadR; eq_refl; exact hbox5; exact e6)
      | (apply X_fn; eq_refl; (exact spoil_cv hj); intro v6 w6 hE6)
      | (apply WC_seqK; intro K hK)
      | (apply hK; clear hK)
      | (apply WC_block)
      | (apply WC_region)
      | (apply WL_nil)
      | (apply thenQ_normal)
      | (apply blockQ_normal)
      | (apply WC_skip)
      | (apply WC_if_true; eq_refl)
      | (apply WL_on0; eq_refl)
      | (apply X_pv; eq_refl; first | exact trivial | omega)
      | (apply X_field; eq_refl)
      | (apply X_loadC; eq_refl; (first | assumption | (apply cel; first | assumption | (apply cel; assumption))))
      | (apply X_cmpT; eq_refl; eq_refl; omega)
      | (apply X_len; eq_refl)
      | (apply X_indexP; eq_refl; eq_refl; omega; omega))
    have hE6' : Chg w5 w6 (fun k => (cirRows c h js js c.justice.length (i + 11)).v.ownBlock = some k) := hE6.mono fun k hk => by
      simp only [cirRows, if_pos hlt, hd]
      exact hk
    exact ⟨i + 1, ⟨rfl, rfl, rfl, trivial⟩, ⟨(hS5.spoil hb (i := i + 11) (by omega) hE6').mono fun q hq => by omega, hlt⟩, by omega⟩
  have hS : SpSt w w5 lo (fun k => ∃ i, (cirRows c h js js c.justice.length i).v.ownBlock = some k) w.heap.size c h (cirRows c h js js c.justice.length) (fun q => q = 2 ∨ q = 8 ∨ q = 9 ∨ q = 10) := hS5.mono fun q hq => by omega
  clear hS5
  repeat' (first
      | (apply WC_seqK; intro K hK)
      | (apply hK; clear hK)
      | (clear hK; apply hK; clear hK)
      | (apply WC_block)
      | (apply WC_region)
      | (apply WL_nil)
      | (apply thenQ_normal)
      | (apply thenQ_exit)
      | (apply blockQ_hit)
      | (apply WC_exit)
      | (apply WC_if_false; eq_refl)
      | (apply WL_on0; eq_refl)
      | (apply X_pv; eq_refl; first | exact trivial | omega)
      | (apply X_field; eq_refl)
      | (apply X_loadR; eq_refl; (first | assumption | (apply Blk.alloc; assumption) | apply Blk.new | apply Blk.newA | (apply Blk.alloc; first | apply Blk.newA | (apply Blk.alloc; first | assumption | apply Blk.newA))); eq_refl)
      | (apply X_cmpF; eq_refl; eq_refl; omega)
      | (apply X_len; eq_refl))
  refine WC_loop (fun i : Nat => [(1, nu mark), (2, pt w.heap.size), (5, nu i)]) (fun i W => (∃ xs, SpSt w W lo (fun k => ∃ i, (cirRows c h js js c.justice.length i).v.ownBlock = some k) w.heap.size c h (upd (cirRows c h js js c.justice.length) 2 ⟨slc h 2 c.latches.length, 70, 3, c.latches.length, xs⟩) (fun q => q = 2 ∨ q = 8 ∨ q = 9 ∨ q = 10)) ∧ i ≤ c.latches.length) (fun i => c.latches.length - i) 0 ⟨rfl, rfl, rfl, trivial⟩ ⟨⟨c.latches.flatMap tcells, hS.chg, hS.box, by
    rw [show upd (cirRows c h js js c.justice.length) 2 ⟨slc h 2 c.latches.length, 70, 3, c.latches.length, c.latches.flatMap tcells⟩ = cirRows c h js js c.justice.length by funext q; unfold upd; split <;> rename_i e; (subst e; rfl); rfl]
    exact hS.rows⟩, Nat.zero_le _⟩ ?_
  clear hS hge hi5 hbox5
  rintro i w5 ⟨⟨xs, hS⟩, hi5⟩
  have hbox5 := hS.box
  rcases Nat.lt_or_ge i c.latches.length with hlt | hge
  · have ho := hS.rows.own (i := 2) (by omega)
    rw [upd_at] at ho
    obtain ⟨g, cap, hv⟩ : ∃ g cap, slc h 2 c.latches.length = .slice (some ⟨g, 0, none⟩) c.latches.length cap := by
      rcases ho.2 with ⟨_, hn⟩ | ⟨g, cap, cur, hv, _⟩
      · have : c.latches.length = 0 := hn
        omega
      · exact ⟨g, cap, hv⟩
    have e6 : (ccells c h)[0 + 2]? = some (.slice (some ⟨g, 0, none⟩) c.latches.length cap) := by rw [← hv]; rfl
    obtain ⟨cur, hB, hcl, hlo, hset⟩ := hS.rows.set (i := 2) (g := g) (n := c.latches.length) (cap := cap) (t := 70) (sz := 3) (xs := xs) (by omega) (by rw [upd_at, hv])
    have hgb := hb 2 g (by show (slc h 2 c.latches.length).ownBlock = some g; rw [hv]; rfl)
    repeat' (first
      | (apply X_loadR; eq_refl; exact hbox5; exact e6)
      | (apply WC_seqK; intro K hK)
      | (apply hK; clear hK)
      | (apply WC_block)
      | (apply WC_region)
      | (apply WL_nil)
      | (apply thenQ_normal)
      | (apply WC_skip)
      | (apply WC_if_true; eq_refl)
      | (apply WL_on0; eq_refl)
      | (apply X_pv; eq_refl; first | exact trivial | omega)
      | (apply X_field; eq_refl)
      | (apply X_cmpT; eq_refl; eq_refl; omega)
      | (apply X_len; eq_refl)
      | (apply X_index; eq_refl; eq_refl; omega; omega)
      | (apply X_pure; apply build70_0 <;> eq_refl))
    refine X_doesU (does_storeA (t1 := 70) (vs := [nu mark, nu 0, nu 0]) (o := 0 + (i : Int).toNat * 3) (b := g) (by eq_refl) (by eq_refl) hB rfl (by show 0 + (i : Int).toNat * 3 + 3 ≤ _; omega) (by simp [Value.oneCell'])) ?_
    have hcc : Chg w5 _ (fun k => k = g) := Chg.setRow w5 g (splice cur (0 + (i : Int).toNat * 3) [nu mark, nu 0, nu 0]).toArray rfl
    repeat' (first
      | (apply hK; clear hK)
      | (apply WC_region)
      | (apply WL_nil)
      | (apply thenQ_normal)
      | (apply blockQ_normal)
      | (apply WL_on0; eq_refl)
      | (apply X_pv; eq_refl; first | exact trivial | omega))
    refine ⟨i + 1, ⟨rfl, rfl, rfl, trivial⟩, ⟨?_, hlt⟩, by omega⟩
    obtain ⟨xs', hS'⟩ := hset (splice cur (0 + (i : Int).toNat * 3) [nu mark, nu 0, nu 0]) (splice_lenP cur [nu mark, nu 0, nu 0] _ (by show 0 + (i : Int).toNat * 3 + 3 ≤ _; omega))
    rw [upd_updM, ← hv] at hS'
    exact ⟨xs', hS.chg.trans hcc fun k hk hh => by rw [hh]; exact hgb.1, hS.box.chg hcc (by omega), hS'⟩
  have hS : SpSt w w5 lo (fun k => ∃ i, (cirRows c h js js c.justice.length i).v.ownBlock = some k) w.heap.size c h (cirRows c h js js c.justice.length) (fun q => q = 8 ∨ q = 9 ∨ q = 10) := ⟨hS.chg, hS.box, hS.rows.back.mono fun q hq => by first | exact hq.elim | omega⟩
  repeat' (first
      | (apply WC_seqK; intro K hK)
      | (apply hK; clear hK)
      | (clear hK; apply hK; clear hK)
      | (apply WC_block)
      | (apply WC_region)
      | (apply WL_nil)
      | (apply thenQ_normal)
      | (apply thenQ_exit)
      | (apply blockQ_hit)
      | (apply WC_exit)
      | (apply WC_if_false; eq_refl)
      | (apply WL_on0; eq_refl)
      | (apply X_pv; eq_refl; first | exact trivial | omega)
      | (apply X_field; eq_refl)
      | (apply X_loadR; eq_refl; (first | assumption | (apply Blk.alloc; assumption) | apply Blk.new | apply Blk.newA | (apply Blk.alloc; first | apply Blk.newA | (apply Blk.alloc; first | assumption | apply Blk.newA))); eq_refl)
      | (apply X_cmpF; eq_refl; eq_refl; omega)
      | (apply X_len; eq_refl))
  refine WC_loop (fun i : Nat => [(1, nu mark), (2, pt w.heap.size), (6, nu i)]) (fun i W => (∃ xs, SpSt w W lo (fun k => ∃ i, (cirRows c h js js c.justice.length i).v.ownBlock = some k) w.heap.size c h (upd (cirRows c h js js c.justice.length) 8 ⟨slc h 8 c.ands.length, 43, 3, c.ands.length, xs⟩) (fun q => q = 8 ∨ q = 9 ∨ q = 10)) ∧ i ≤ c.ands.length) (fun i => c.ands.length - i) 0 ⟨rfl, rfl, rfl, trivial⟩ ⟨⟨c.ands.flatMap tcells, hS.chg, hS.box, by
    rw [show upd (cirRows c h js js c.justice.length) 8 ⟨slc h 8 c.ands.length, 43, 3, c.ands.length, c.ands.flatMap tcells⟩ = cirRows c h js js c.justice.length by funext q; unfold upd; split <;> rename_i e; (subst e; rfl); rfl]
    exact hS.rows⟩, Nat.zero_le _⟩ ?_
  clear hS hge hi5 hbox5
  rintro i w5 ⟨⟨xs, hS⟩, hi5⟩
  have hbox5 := hS.box
  rcases Nat.lt_or_ge i c.ands.length with hlt | hge
  · have ho := hS.rows.own (i := 8) (by omega)
    rw [upd_at] at ho
    obtain ⟨g, cap, hv⟩ : ∃ g cap, slc h 8 c.ands.length = .slice (some ⟨g, 0, none⟩) c.ands.length cap := by
      rcases ho.2 with ⟨_, hn⟩ | ⟨g, cap, cur, hv, _⟩
      · have : c.ands.length = 0 := hn
        omega
      · exact ⟨g, cap, hv⟩
    have e6 : (ccells c h)[0 + 8]? = some (.slice (some ⟨g, 0, none⟩) c.ands.length cap) := by rw [← hv]; rfl
    obtain ⟨cur, hB, hcl, hlo, hset⟩ := hS.rows.set (i := 8) (g := g) (n := c.ands.length) (cap := cap) (t := 43) (sz := 3) (xs := xs) (by omega) (by rw [upd_at, hv])
    have hgb := hb 8 g (by show (slc h 8 c.ands.length).ownBlock = some g; rw [hv]; rfl)
    repeat' (first
      | (apply X_loadR; eq_refl; exact hbox5; exact e6)
      | (apply WC_seqK; intro K hK)
      | (apply hK; clear hK)
      | (apply WC_block)
      | (apply WC_region)
      | (apply WL_nil)
      | (apply thenQ_normal)
      | (apply WC_skip)
      | (apply WC_if_true; eq_refl)
      | (apply WL_on0; eq_refl)
      | (apply X_pv; eq_refl; first | exact trivial | omega)
      | (apply X_field; eq_refl)
      | (apply X_cmpT; eq_refl; eq_refl; omega)
      | (apply X_len; eq_refl)
      | (apply X_index; eq_refl; eq_refl; omega; omega)
      | (apply X_pure; apply build43_0 <;> eq_refl))
    refine X_doesU (does_storeA (t1 := 43) (vs := [nu mark, nu 0, nu 0]) (o := 0 + (i : Int).toNat * 3) (b := g) (by eq_refl) (by eq_refl) hB rfl (by show 0 + (i : Int).toNat * 3 + 3 ≤ _; omega) (by simp [Value.oneCell'])) ?_
    have hcc : Chg w5 _ (fun k => k = g) := Chg.setRow w5 g (splice cur (0 + (i : Int).toNat * 3) [nu mark, nu 0, nu 0]).toArray rfl
    repeat' (first
      | (apply hK; clear hK)
      | (apply WC_region)
      | (apply WL_nil)
      | (apply thenQ_normal)
      | (apply blockQ_normal)
      | (apply WL_on0; eq_refl)
      | (apply X_pv; eq_refl; first | exact trivial | omega))
    refine ⟨i + 1, ⟨rfl, rfl, rfl, trivial⟩, ⟨?_, hlt⟩, by omega⟩
    obtain ⟨xs', hS'⟩ := hset (splice cur (0 + (i : Int).toNat * 3) [nu mark, nu 0, nu 0]) (splice_lenP cur [nu mark, nu 0, nu 0] _ (by show 0 + (i : Int).toNat * 3 + 3 ≤ _; omega))
    rw [upd_updM, ← hv] at hS'
    exact ⟨xs', hS.chg.trans hcc fun k hk hh => by rw [hh]; exact hgb.1, hS.box.chg hcc (by omega), hS'⟩
  have hS : SpSt w w5 lo (fun k => ∃ i, (cirRows c h js js c.justice.length i).v.ownBlock = some k) w.heap.size c h (cirRows c h js js c.justice.length) (fun q => q = 9 ∨ q = 10) := ⟨hS.chg, hS.box, hS.rows.back.mono fun q hq => by first | exact hq.elim | omega⟩
  repeat' (first
      | (apply WC_seqK; intro K hK)
      | (apply hK; clear hK)
      | (clear hK; apply hK; clear hK)
      | (apply WC_block)
      | (apply WC_region)
      | (apply WL_nil)
      | (apply thenQ_normal)
      | (apply thenQ_exit)
      | (apply blockQ_hit)
      | (apply WC_exit)
      | (apply WC_if_false; eq_refl)
      | (apply WL_on0; eq_refl)
      | (apply X_pv; eq_refl; first | exact trivial | omega)
      | (apply X_field; eq_refl)
      | (apply X_loadR; eq_refl; (first | assumption | (apply Blk.alloc; assumption) | apply Blk.new | apply Blk.newA | (apply Blk.alloc; first | apply Blk.newA | (apply Blk.alloc; first | assumption | apply Blk.newA))); eq_refl)
      | (apply X_cmpF; eq_refl; eq_refl; omega)
      | (apply X_len; eq_refl))
  refine WC_loop (fun i : Nat => [(1, nu mark), (2, pt w.heap.size), (7, nu i)]) (fun i W => (∃ xs, SpSt w W lo (fun k => ∃ i, (cirRows c h js js c.justice.length i).v.ownBlock = some k) w.heap.size c h (upd (cirRows c h js js c.justice.length) 9 ⟨slc h 9 c.symbols.length, 117, 3, c.symbols.length, xs⟩) (fun q => q = 9 ∨ q = 10)) ∧ i ≤ c.symbols.length) (fun i => c.symbols.length - i) 0 ⟨rfl, rfl, rfl, trivial⟩ ⟨⟨c.symbols.flatMap scells, hS.chg, hS.box, by
    rw [show upd (cirRows c h js js c.justice.length) 9 ⟨slc h 9 c.symbols.length, 117, 3, c.symbols.length, c.symbols.flatMap scells⟩ = cirRows c h js js c.justice.length by funext q; unfold upd; split <;> rename_i e; (subst e; rfl); rfl]
    exact hS.rows⟩, Nat.zero_le _⟩ ?_
  clear hS hge hi5 hbox5
  rintro i w5 ⟨⟨xs, hS⟩, hi5⟩
  have hbox5 := hS.box
  rcases Nat.lt_or_ge i c.symbols.length with hlt | hge
  · have ho := hS.rows.own (i := 9) (by omega)
    rw [upd_at] at ho
    obtain ⟨g, cap, hv⟩ : ∃ g cap, slc h 9 c.symbols.length = .slice (some ⟨g, 0, none⟩) c.symbols.length cap := by
      rcases ho.2 with ⟨_, hn⟩ | ⟨g, cap, cur, hv, _⟩
      · have : c.symbols.length = 0 := hn
        omega
      · exact ⟨g, cap, hv⟩
    have e6 : (ccells c h)[0 + 9]? = some (.slice (some ⟨g, 0, none⟩) c.symbols.length cap) := by rw [← hv]; rfl
    obtain ⟨cur, hB, hcl, hlo, hset⟩ := hS.rows.set (i := 9) (g := g) (n := c.symbols.length) (cap := cap) (t := 117) (sz := 3) (xs := xs) (by omega) (by rw [upd_at, hv])
    have hgb := hb 9 g (by show (slc h 9 c.symbols.length).ownBlock = some g; rw [hv]; rfl)
    repeat' (first
      | (apply X_loadR; eq_refl; exact hbox5; exact e6)
      | (apply WC_seqK; intro K hK)
      | (apply hK; clear hK)
      | (apply WC_block)
      | (apply WC_region)
      | (apply WL_nil)
      | (apply thenQ_normal)
      | (apply WC_skip)
      | (apply WC_if_true; eq_refl)
      | (apply WL_on0; eq_refl)
      | (apply X_pv; eq_refl; first | exact trivial | omega)
      | (apply X_field; eq_refl)
      | (apply X_cmpT; eq_refl; eq_refl; omega)
      | (apply X_len; eq_refl)
      | (apply X_index; eq_refl; eq_refl; omega; omega)
      | (apply X_pure; apply build117_2 <;> eq_refl))
    refine X_doesU (does_storeA (t1 := 117) (vs := [.int .u8 0, nu 0, .string ⟨#[115, 112, 111, 105, 108, 116]⟩]) (o := 0 + (i : Int).toNat * 3) (b := g) (by eq_refl) (by eq_refl) hB rfl (by show 0 + (i : Int).toNat * 3 + 3 ≤ _; omega) (by simp [Value.oneCell'])) ?_
    have hcc : Chg w5 _ (fun k => k = g) := Chg.setRow w5 g (splice cur (0 + (i : Int).toNat * 3) [.int .u8 0, nu 0, .string ⟨#[115, 112, 111, 105, 108, 116]⟩]).toArray rfl
    repeat' (first
      | (apply hK; clear hK)
      | (apply WC_region)
      | (apply WL_nil)
      | (apply thenQ_normal)
      | (apply blockQ_normal)
      | (apply WL_on0; eq_refl)
      | (apply X_pv; eq_refl; first | exact trivial | omega))
    refine ⟨i + 1, ⟨rfl, rfl, rfl, trivial⟩, ⟨?_, hlt⟩, by omega⟩
    obtain ⟨xs', hS'⟩ := hset (splice cur (0 + (i : Int).toNat * 3) [.int .u8 0, nu 0, .string ⟨#[115, 112, 111, 105, 108, 116]⟩]) (splice_lenP cur [.int .u8 0, nu 0, .string ⟨#[115, 112, 111, 105, 108, 116]⟩] _ (by show 0 + (i : Int).toNat * 3 + 3 ≤ _; omega))
    rw [upd_updM, ← hv] at hS'
    exact ⟨xs', hS.chg.trans hcc fun k hk hh => by rw [hh]; exact hgb.1, hS.box.chg hcc (by omega), hS'⟩
  have hS : SpSt w w5 lo (fun k => ∃ i, (cirRows c h js js c.justice.length i).v.ownBlock = some k) w.heap.size c h (cirRows c h js js c.justice.length) (fun q => q = 10) := ⟨hS.chg, hS.box, hS.rows.back.mono fun q hq => by first | exact hq.elim | omega⟩
  repeat' (first
      | (apply WC_seqK; intro K hK)
      | (apply hK; clear hK)
      | (clear hK; apply hK; clear hK)
      | (apply WC_block)
      | (apply WC_region)
      | (apply WL_nil)
      | (apply thenQ_normal)
      | (apply thenQ_exit)
      | (apply blockQ_hit)
      | (apply WC_exit)
      | (apply WC_if_false; eq_refl)
      | (apply WL_on0; eq_refl)
      | (apply X_pv; eq_refl; first | exact trivial | omega)
      | (apply X_field; eq_refl)
      | (apply X_loadR; eq_refl; (first | assumption | (apply Blk.alloc; assumption) | apply Blk.new | apply Blk.newA | (apply Blk.alloc; first | apply Blk.newA | (apply Blk.alloc; first | assumption | apply Blk.newA))); eq_refl)
      | (apply X_cmpF; eq_refl; eq_refl; omega)
      | (apply X_len; eq_refl))
  refine WC_loop (fun i : Nat => [(1, nu mark), (2, pt w.heap.size), (8, nu i)]) (fun i W => (∃ xs, SpSt w W lo (fun k => ∃ i, (cirRows c h js js c.justice.length i).v.ownBlock = some k) w.heap.size c h (upd (cirRows c h js js c.justice.length) 10 ⟨slc h 10 c.comments.length, 9, 1, c.comments.length, xs⟩) (fun q => q = 10)) ∧ i ≤ c.comments.length) (fun i => c.comments.length - i) 0 ⟨rfl, rfl, rfl, trivial⟩ ⟨⟨c.comments.flatMap bcell, hS.chg, hS.box, by
    rw [show upd (cirRows c h js js c.justice.length) 10 ⟨slc h 10 c.comments.length, 9, 1, c.comments.length, c.comments.flatMap bcell⟩ = cirRows c h js js c.justice.length by funext q; unfold upd; split <;> rename_i e; (subst e; rfl); rfl]
    exact hS.rows⟩, Nat.zero_le _⟩ ?_
  clear hS hge hi5 hbox5
  rintro i w5 ⟨⟨xs, hS⟩, hi5⟩
  have hbox5 := hS.box
  rcases Nat.lt_or_ge i c.comments.length with hlt | hge
  · have ho := hS.rows.own (i := 10) (by omega)
    rw [upd_at] at ho
    obtain ⟨g, cap, hv⟩ : ∃ g cap, slc h 10 c.comments.length = .slice (some ⟨g, 0, none⟩) c.comments.length cap := by
      rcases ho.2 with ⟨_, hn⟩ | ⟨g, cap, cur, hv, _⟩
      · have : c.comments.length = 0 := hn
        omega
      · exact ⟨g, cap, hv⟩
    have e6 : (ccells c h)[0 + 10]? = some (.slice (some ⟨g, 0, none⟩) c.comments.length cap) := by rw [← hv]; rfl
    obtain ⟨cur, hB, hcl, hlo, hset⟩ := hS.rows.set (i := 10) (g := g) (n := c.comments.length) (cap := cap) (t := 9) (sz := 1) (xs := xs) (by omega) (by rw [upd_at, hv])
    have hgb := hb 10 g (by show (slc h 10 c.comments.length).ownBlock = some g; rw [hv]; rfl)
    repeat' (first
      | (apply X_loadR; eq_refl; exact hbox5; exact e6)
      | (apply WC_seqK; intro K hK)
      | (apply hK; clear hK)
      | (apply WC_block)
      | (apply WC_region)
      | (apply WL_nil)
      | (apply thenQ_normal)
      | (apply WC_skip)
      | (apply WC_if_true; eq_refl)
      | (apply WL_on0; eq_refl)
      | (apply X_pv; eq_refl; first | exact trivial | omega)
      | (apply X_field; eq_refl)
      | (apply X_cmpT; eq_refl; eq_refl; omega)
      | (apply X_len; eq_refl)
      | (apply X_index; eq_refl; eq_refl; omega; omega))
    refine X_doesU (does_store1 (t1 := 9) (b := g) (o := 0 + (i : Int).toNat * 1) (v := .string ⟨#[115, 112, 111, 105, 108, 116]⟩) (by eq_refl) (by eq_refl) hB (by omega) rfl rfl) ?_
    have hcc : Chg w5 _ (fun k => k = g) := Chg.setRow w5 g (cur.set (0 + (i : Int).toNat * 1) (.string ⟨#[115, 112, 111, 105, 108, 116]⟩)).toArray rfl
    repeat' (first
      | (apply hK; clear hK)
      | (apply WC_region)
      | (apply WL_nil)
      | (apply thenQ_normal)
      | (apply blockQ_normal)
      | (apply WL_on0; eq_refl)
      | (apply X_pv; eq_refl; first | exact trivial | omega))
    refine ⟨i + 1, ⟨rfl, rfl, rfl, trivial⟩, ⟨?_, hlt⟩, by omega⟩
    obtain ⟨xs', hS'⟩ := hset (cur.set (0 + (i : Int).toNat * 1) (.string ⟨#[115, 112, 111, 105, 108, 116]⟩)) (List.length_set)
    rw [upd_updM, ← hv] at hS'
    exact ⟨xs', hS.chg.trans hcc fun k hk hh => by rw [hh]; exact hgb.1, hS.box.chg hcc (by omega), hS'⟩
  have hS : SpSt w w5 lo (fun k => ∃ i, (cirRows c h js js c.justice.length i).v.ownBlock = some k) w.heap.size c h (cirRows c h js js c.justice.length) (fun q => False) := ⟨hS.chg, hS.box, hS.rows.back.mono fun q hq => by first | exact hq.elim | omega⟩
  repeat' (first
      | (apply WC_seqK; intro K hK)
      | (apply hK; clear hK)
      | (apply WC_region)
      | (apply WL_nil)
      | (apply thenQ_normal)
      | (apply thenQ_exit)
      | (apply blockQ_hit)
      | (apply WC_exit)
      | (apply WC_if_false; eq_refl)
      | (apply ret0n)
      | (apply WL_on0; eq_refl)
      | (apply X_pv; eq_refl; first | exact trivial | omega)
      | (apply X_field; eq_refl)
      | (apply X_loadR; eq_refl; (first | assumption | (apply Blk.alloc; assumption) | apply Blk.new | apply Blk.newA | (apply Blk.alloc; first | apply Blk.newA | (apply Blk.alloc; first | assumption | apply Blk.newA))); eq_refl)
      | (apply X_cmpF; eq_refl; eq_refl; omega)
      | (apply X_len; eq_refl))
  exact hS.chg
end SC
end Go.Proofs.Ytkndegjodnciaaa
end
section
/- Regions whose operations come in no order: one fact on what is done, what came out, and the world. -/
set_option linter.unusedVariables false
set_option linter.unusedSimpArgs false
namespace Go.Proofs.Ytkndegjodnciaaa
namespace SC
open Go.Proofs
abbrev InvT := (Nat → Bool) → (Nat → Value) → World → Prop
/-- What is known while some are done. -/
structure InvSt (n : Nat) (e0 : Env) (l : List Oper) (Inv : InvT) (vals : Nat → Value) (listed : Array Bool) (a : Act) (w : World) : Prop where
  size : listed.size = l.length
  agree : Agree n e0 a
  got : ∀ i d, listed.getD i false = true → gslot l i = some d → a.tmps[d]? = some (vals i)
  inv : Inv (fun i => listed.getD i false) vals w
  shut : Shut .any l.toArray listed
def mark1 (L : Nat → Bool) (i : Nat) : Nat → Bool := fun j => if j = i then true else L j
def val1 (vals : Nat → Value) (i : Nat) (v : Value) : Nat → Value := fun j => if j = i then v else vals j
section
variable {P : Program} {n : Nat} {e0 : Env} {l : List Oper} {ds : Nat → List Nat} {outs : List Nat} {Inv : InvT} {Q : Exit → Act → World → Prop}
theorem inv_main (hok : okFree n e0 l ds = true)
    (hstep : ∀ i (o : Oper) (L : Nat → Bool) vals w, i + 1 < l.length → nth l i = some o → L i = false → (∀ j ∈ ds i, L j = true) → Inv L vals w → Ex P o (envD l vals e0 (ds i)) w fun v w' => Inv (mark1 L i) (val1 vals i v) w')
    {K : (Nat → Value) → World → Prop} (hlast : ∀ i (o : Oper) (L : Nat → Bool) vals w, i + 1 = l.length → nth l i = some o → (∀ j < i, L j = true) → Inv L vals w → Ex P o (envD l vals e0 (ds i)) w fun v w' => K vals w') (hds : ∀ i, ∀ j ∈ ds i, gslot l j ≠ none) (houts : ∀ j ∈ outs, j + 1 < l.length)
    (hQ : ∀ vals a w, Agree n (envD l vals e0 outs) a → K vals w → Q .normal a w) : ∀ (fuel : Nat) (vals : Nat → Value) (listed : Array Bool) (a : Act) (w : World), unl listed ≤ fuel → (∃ i, i < l.length ∧ listed.getD i false = false) → InvSt n e0 l Inv vals listed a w → wpAny P .any l.toArray Q fuel listed a w
  | 0, vals, listed, a, w, hu, ⟨i, hi, hf⟩, h => by
    exfalso
    have : listed[i]? = some false := by
      have hlt : i < listed.size := by rw [h.size]; exact hi
      rw [Array.getD_eq_getD_getElem?, Array.getElem?_eq_getElem hlt] at hf
      rw [Array.getElem?_eq_getElem hlt]
      simpa using hf
    have := unl_set this
    omega
  | fuel + 1, vals, listed, a, w, hu, ⟨i0, hi0, hf0⟩, h => by
    have hgd : ∀ i, i < l.length → listed.getD i false = false → listed[i]? = some false := fun i hi hf => by
      have hlt : i < listed.size := by rw [h.size]; exact hi
      rw [Array.getD_eq_getD_getElem?, Array.getElem?_eq_getElem hlt] at hf
      rw [Array.getElem?_eq_getElem hlt]
      simpa using hf
    have hopi : ∀ {i : Nat} {o : Oper}, nth l i = some o → l.toArray[i]? = some o := fun {i o} hn => by rw [nth_eq] at hn; simpa using hn
    -- the least one that is still to come is ready
    have hready : Region.ready .any l.toArray listed ≠ [] := by
      have hleast : ∃ i, i < l.length ∧ listed.getD i false = false ∧ ∀ j, j < i → listed.getD j false = true := by
        have : ∀ k, k < l.length → listed.getD k false = false → ∃ i, i < l.length ∧ listed.getD i false = false ∧ ∀ j, j < i → listed.getD j false = true := by
          intro k
          induction k using Nat.strongRecOn with
          | _ k ih =>
            intro hk hf
            by_cases hc : ∃ j, j < k ∧ listed.getD j false = false
            · obtain ⟨j, hj, hjf⟩ := hc
              exact ih j hj (by omega) hjf
            · refine ⟨k, hk, hf, fun j hj => ?_⟩
              cases hb : listed.getD j false with
              | true => rfl
              | false => exact absurd ⟨j, hj, hb⟩ hc
        exact this i0 hi0 hf0
      obtain ⟨i, hi, hf, hall⟩ := hleast
      obtain ⟨o, hn, _, _, _, _, hlt, _⟩ := okFree_at hok hi
      intro hnil
      have : i ∈ Region.ready .any l.toArray listed := mem_ready.2 ⟨by
        have := hgd i hi hf
        rw [Array.getD_eq_getD_getElem?, this]; rfl, o, hopi hn, fun e he _ => hall e.on (hlt e he)⟩
      rw [hnil] at this
      cases this
    refine ⟨fun hnil => absurd hnil hready, fun i hir => ?_⟩
    obtain ⟨hun, o, ho, hafter⟩ := mem_ready.1 hir
    have hi : i < l.length := by simpa using (Array.getElem?_eq_some_iff.1 ho).1
    obtain ⟨o', hn, hg, hsl, hkf, hdis, hlt, hdep, hwl⟩ := okFree_at hok hi
    have hoo : o = o' := by have := hopi hn; rw [ho] at this; exact Option.some.inj this
    subst hoo
    have hif : listed[i]? = some false := by
      have hlt' : i < listed.size := by rw [h.size]; exact hi
      rw [Array.getD_eq_getD_getElem?, Array.getElem?_eq_getElem hlt'] at hun
      rw [Array.getElem?_eq_getElem hlt']
      simpa using hun
    have hls : ∀ j ∈ ds i, listed.getD j false = true := fun j hj => by
      obtain ⟨e, he, hb, rfl⟩ := hdep j hj
      exact hafter e he hb
    have hea := env_agree (vals := vals) h.agree (ds i) (fun j hj d hd => h.got j d (hls j hj) hd)
    have huu := unl_set hif
    have hmk : (fun j => (listed.setIfInBounds i true).getD j false) = mark1 (fun j => listed.getD j false) i := by
      funext j
      unfold mark1
      by_cases hji : j = i
      · subst hji
        rw [if_pos rfl, Array.getD_eq_getD_getElem?, Array.getElem?_setIfInBounds_self_of_lt (by rw [h.size]; exact hi)]
        rfl
      · rw [if_neg hji, Array.getD_eq_getD_getElem?, Array.getElem?_setIfInBounds_ne (fun e => hji e.symm), ← Array.getD_eq_getD_getElem?]
    by_cases hli : i + 1 = l.length
    · refine (hlast i o (fun j => listed.getD j false) vals w hli hn (fun j hj => by obtain ⟨e, he, hb, rfl⟩ := hwl hli j hj; exact hafter e he hb) h.inv).wpOp ho hg hea fun v w' hK => ?_
      have hQ' := hQ vals _ w' (env_agree (vals := vals) (h.agree.free v hkf) outs fun j hj d hd => by
        have hjl := houts j hj
        have h1 := h.got j d (by obtain ⟨e, he, hb, rfl⟩ := hwl hli j (by omega); exact hafter e he hb) hd
        cases hod : o.dst with
        | none => exact h1
        | some d' =>
          rw [put_ne v (hdis j (by omega) (by omega) d' d hod hd)]
          exact h1) hK
      have hnone : Region.ready .any l.toArray (listed.setIfInBounds i true) = [] := by
        rw [List.eq_nil_iff_forall_not_mem]
        intro k hk
        obtain ⟨hkf, ok, hok', _⟩ := mem_ready.1 hk
        have hkl : k < l.length := by simpa using (Array.getElem?_eq_some_iff.1 hok').1
        by_cases hki : k = i
        · subst hki
          rw [Array.getD_eq_getD_getElem?] at hkf
          simp [h.size, hi] at hkf
        · obtain ⟨e, he, hb, rfl⟩ := hwl hli k (by omega)
          have := hafter e he hb
          rw [Array.getD_eq_getD_getElem?, Array.getElem?_setIfInBounds_ne (fun e => hki e.symm)] at hkf
          rw [Array.getD_eq_getD_getElem?] at this
          cases hl : listed[e.on]? with
          | none => rw [hl] at this; simp at this
          | some b => rw [hl] at this hkf; simp at this hkf; rw [this] at hkf; cases hkf
      cases fuel with
      | zero => exact ⟨hnone, hQ'⟩
      | succ fuel => exact ⟨fun _ => hQ', fun k hk => by rw [hnone] at hk; cases hk⟩
    · refine (hstep i o (fun j => listed.getD j false) vals w (by omega) hn (by show listed.getD i false = false; rw [Array.getD_eq_getD_getElem?, hif]; rfl) hls h.inv).wpOp ho hg hea fun v w' hR => ?_
      refine inv_main hok hstep hlast hds houts hQ fuel (val1 vals i v) _ _ w' (by omega) ?_ ⟨by simp [h.size], h.agree.free v hkf, fun j d hj hd => ?_, by rw [hmk]; exact hR, h.shut.set hir⟩
      · -- the last one is still to come
        refine ⟨l.length - 1, by omega, ?_⟩
        have hll : l.length - 1 < l.length := by omega
        obtain ⟨ol, hnl, _, _, _, _, _, _, hwll⟩ := okFree_at hok hll
        rw [Array.getD_eq_getD_getElem?, Array.getElem?_setIfInBounds_ne (by omega), ← Array.getD_eq_getD_getElem?]
        cases hb : listed.getD (l.length - 1) false with
        | false => rfl
        | true =>
          obtain ⟨e, he, hb2, rfl⟩ := hwll (by omega) i (by omega)
          have := h.shut (l.length - 1) ol (hopi hnl) hb e he hb2
          rw [Array.getD_eq_getD_getElem?, hif] at this
          simp at this
      · by_cases hji : j = i
        · subst hji
          have hod : o.dst = some d := by unfold gslot at hd; rw [hn] at hd; exact hd
          rw [hod] at hsl ⊢
          unfold val1
          rw [if_pos rfl]
          exact put_get h.agree.size v hsl
        · have hjl : listed.getD j false = true := by
            rw [Array.getD_eq_getD_getElem?, Array.getElem?_setIfInBounds_ne (fun e => hji e.symm), ← Array.getD_eq_getD_getElem?] at hj
            exact hj
          unfold val1
          rw [if_neg hji]
          have h1 := h.got j d hjl hd
          cases hod : o.dst with
          | none => exact h1
          | some d' =>
            have hjlt : j < l.length := by
              rw [Array.getD_eq_getD_getElem?] at hjl
              rcases Nat.lt_or_ge j listed.size with hh | hh
              · rw [← h.size]; exact hh
              · rw [Array.getElem?_eq_none hh] at hjl; simp at hjl
            rw [put_ne v (hdis j hjlt (fun e => hji e.symm) d' d hod hd)]
            exact h1
theorem WC_inv {id : Nat} {e : Env} {w : World} {Qp : Post} (e0 : Env) (ds : Nat → List Nat) (outs : List Nat) (Inv : InvT) (K : (Nat → Value) → World → Prop) (hm : P.follows .mixedOrders = true) (hok : okFree n e0 l ds = true) (hne : l ≠ []) (hsub : Sub e0 e) (hds : ∀ i, ∀ j ∈ ds i, gslot l j ≠ none) (houts : ∀ j ∈ outs, j + 1 < l.length)
    (h0 : Inv (fun _ => false) (fun _ => undef) w.drew)
    (hstep : ∀ i (o : Oper) (L : Nat → Bool) vals w, i + 1 < l.length → nth l i = some o → L i = false → (∀ j ∈ ds i, L j = true) → Inv L vals w → Ex P o (envD l vals e0 (ds i)) w fun v w' => Inv (mark1 L i) (val1 vals i v) w')
    (hlast : ∀ i (o : Oper) (L : Nat → Bool) vals w, i + 1 = l.length → nth l i = some o → (∀ j < i, L j = true) → Inv L vals w → Ex P o (envD l vals e0 (ds i)) w fun v w' => K vals w')
    (hK : ∀ vals w, K vals w → Qp .normal (envD l vals e0 outs) w) : WC P n (.region id l.toArray true) Qp e w := by
  refine WC.weaken (e' := e0) ?_ hsub
  intro a ha
  refine wp_region_any hm ?_
  have hpos : 0 < l.length := List.length_pos_iff.2 hne
  have hrep : ∀ i, (Array.replicate l.length false).getD i false = false := fun i => by
    rw [Array.getD_eq_getD_getElem?, Array.getElem?_replicate]
    split <;> rfl
  refine inv_main (Q := lift n Qp) hok hstep hlast hds houts (fun vals a w ha hk => ⟨_, ha, hK vals w hk⟩) _ (fun _ => undef) _ a w.drew ?_ ⟨0, hpos, hrep 0⟩ ⟨by simp, ha, fun i d hi _ => ?_, ?_, Shut.init _ _ _⟩
  · unfold unl
    simp
  · have := hrep i
    rw [show l.toArray.size = l.length by simp] at hi
    rw [this] at hi
    cases hi
  · have e : (fun i => (Array.replicate l.toArray.size false).getD i false) = fun _ => false := by funext i; simpa using hrep i
    rw [e]
    exact h0
end
end SC
end Go.Proofs.Ytkndegjodnciaaa
end
section
/- ShapeCopies: the walk. -/
set_option linter.unusedVariables false
set_option linter.unusedSimpArgs false
namespace Go.Proofs.Ytkndegjodnciaaa
namespace SC
open Go.Proofs
/-- Two copies, as they come. -/
structure TwoSt (w : World) (b5 : Nat) (c : Circ) (h2 : Hd) (L : Nat → Bool) (vals : Nat → Value) (W : World) (hx jx hy jy : Hd) (b6 b7 : Nat) : Prop where
  chg : Chg w W none_
  v0 : L 0 = true → vals 0 = .agg (ccells c h2).toArray
  v2 : L 2 = true → vals 2 = .agg (ccells c h2).toArray
  v1 : L 1 = true → vals 1 = .agg (ccells c hx).toArray ∧ CirOwn W w.heap.size c hx jx
  v3 : L 3 = true → vals 3 = .agg (ccells c hy).toArray ∧ CirOwn W w.heap.size c hy jy ∧ ∀ i k, (cirRows c hy jy jy c.justice.length i).v.ownBlock = some k → ∀ j, (cirRows c hx jx jx c.justice.length j).v.ownBlock ≠ some k
  v4 : L 4 = true → vals 4 = pt b6 ∧ w.heap.size ≤ b6 ∧ ∃ cs, Blk W b6 51 cs ∧ cs.length = 11 ∧ (L 6 = true → cs = ccells c hx)
  v5 : L 5 = true → vals 5 = pt b7 ∧ w.heap.size ≤ b7 ∧ ∃ cs, Blk W b7 51 cs ∧ cs.length = 11
  ne : L 4 = true → L 5 = true → b6 ≠ b7
  d3 : L 3 = true → L 1 = true
  d6 : L 6 = true → L 1 = true ∧ L 4 = true
def twDs : Nat → List Nat
  | 1 => [0]
  | 3 => [1, 2]
  | 6 => [1, 3, 4, 5]
  | 7 => [1, 3, 4, 5]
  | _ => []
theorem mark1_at (L : Nat → Bool) (i : Nat) : mark1 L i i = true := by unfold mark1; rw [if_pos rfl]
theorem mark1_ne (L : Nat → Bool) {i j : Nat} (h : j ≠ i) : mark1 L i j = L j := by unfold mark1; rw [if_neg h]
theorem val1_at (vals : Nat → Value) (i : Nat) (v : Value) : val1 vals i v i = v := by unfold val1; rw [if_pos rfl]
theorem val1_ne (vals : Nat → Value) {i j : Nat} (v : Value) (h : j ≠ i) : val1 vals i v j = vals j := by unfold val1; rw [if_neg h]
theorem TwoSt.same {w W W' : World} {b5 : Nat} {c : Circ} {h2 : Hd} {L : Nat → Bool} {vals : Nat → Value} {hx jx hy jy : Hd} {b6 b7 : Nat} (S : TwoSt w b5 c h2 L vals W hx jx hy jy b6 b7) (hc : Chg W W' none_) : TwoSt w b5 c h2 L vals W' hx jx hy jy b6 b7 :=
  ⟨S.chg.trans hc fun _ _ h => h, S.v0, S.v2, fun h => ⟨(S.v1 h).1, (S.v1 h).2.same hc⟩, fun h => ⟨(S.v3 h).1, (S.v3 h).2.1.same hc, (S.v3 h).2.2⟩, fun h => by
    obtain ⟨e1, e2, cs, e3, e4, e5⟩ := S.v4 h
    exact ⟨e1, e2, cs, e3.chg hc id, e4, e5⟩, fun h => by
    obtain ⟨e1, e2, cs, e3, e4⟩ := S.v5 h
    exact ⟨e1, e2, cs, e3.chg hc id, e4⟩, S.ne, S.d3, S.d6⟩
theorem splice_all (cs vs : List Value) (h : cs.length = vs.length) : splice cs 0 vs = vs := by
  unfold splice
  rw [List.take_zero, Nat.zero_add, ← h, List.drop_length]
  simp
theorem CirOwn.store {w : World} {lo b : Nat} {c : Circ} {h js : Hd} {cs vs : List Value} (H : CirOwn w lo c h js) (hB : Blk w b 51 cs) : CirOwn (w.setRow b vs.toArray) lo c h js :=
  Rows.chg H (T := fun k => k = b) (Chg.setRow w b _ rfl) fun i k hk hh => own_blk (H.own i) hB (by rw [cirRows_t]; exact rt_51 i) (by rw [hk, hh])
attribute [local irreducible] WC WL WX WS WO OX Does DoesU Enters CV Pure thenQ blockQ retQ Wants retQC
set_option maxRecDepth 100000
theorem copies_cv {w : World} {c d : Circ} {h js k ks : Hd} (H : CirAt w c h js) (hs : c.Sane) (ho : c.Okay) (hf : c.Fits1) (hn : Nils h js) (H' : CirAt w d k ks) (ho' : d.Okay) : CV Try.prog 6 [.agg (ccells c h).toArray, .agg (ccells d k).toArray] w fun v w' => v = .bool true ∧ Chg w w' none_ := by
  have hC0 : Chg w ((w.alloc (.cells (ccells c h).toArray 51)).alloc (.cells (ccells d k).toArray 51)) none_ := (Chg.alloc w _ none_).al _
  have hA0 : Blk ((w.alloc (.cells (ccells c h).toArray 51)).alloc (.cells (ccells d k).toArray 51)) w.heap.size 51 (ccells c h) := Blk.alloc _ (Blk.new w _ _)
  have hB0 : Blk ((w.alloc (.cells (ccells c h).toArray 51)).alloc (.cells (ccells d k).toArray 51)) (w.alloc (.cells (ccells c h).toArray 51)).heap.size 51 (ccells d k) := Blk.new (w.alloc (.cells (ccells c h).toArray 51)) (ccells d k) 51
  have hwk : ∀ W, CV Try.prog 31 [] W fun v w' => v = .bool true ∧ Chg W w' none_ := fun W => works_cv
  have hld := lendCircuit_cv (H.chg hC0) hf hn
  refine enter 46 [4] Try.func6 rfl rfl rfl (by decide) rfl ?_
  repeat' (first
      | (apply X_fn; eq_refl; exact hld; rintro _ w2 ⟨h2, js2, rfl, hL2, hC2⟩; have hA2 := hA0.chg hC2 id; have hB2 := hB0.chg hC2 id; have hC2' := hC0.trans hC2 fun _ _ h => h)
      | (apply WC_seqK; intro K hK)
      | (apply hK; clear hK)
      | (apply WC_region)
      | (apply WL_nil)
      | (apply thenQ_normal)
      | (apply WL_on0; eq_refl)
      | (apply X_pv; eq_refl; first | exact trivial | omega)
      | (apply X_loadW; eq_refl; (first | assumption | (apply Blk.alloc; assumption) | apply Blk.new | apply Blk.newA | (apply Blk.alloc; first | apply Blk.newA | (apply Blk.alloc; first | assumption | apply Blk.newA))); eq_refl)
      | (apply X_alloc)
      | (apply X_box; eq_refl))
  refine X_doesU (does_storeA (t1 := 51) (vs := ccells c h2) (o := 0) (b := w2.heap.size) (by eq_refl) (by eq_refl) (cs := (Value.agg #[nu 0, .slice none 0 0, .slice none 0 0, .slice none 0 0, .slice none 0 0, .slice none 0 0, .slice none 0 0, .slice none 0 0, .slice none 0 0, .slice none 0 0, .slice none 0 0]).cells.toList) (Blk.newA w2 (Value.agg #[nu 0, .slice none 0 0, .slice none 0 0, .slice none 0 0, .slice none 0 0, .slice none 0 0, .slice none 0 0, .slice none 0 0, .slice none 0 0, .slice none 0 0, .slice none 0 0]).cells 51) rfl (by exact Nat.le_refl 11) (by simp [ccells, Value.oneCell'])) ?_
  have hcc : Chg w2 ((w2.alloc (.cells (Value.agg #[nu 0, .slice none 0 0, .slice none 0 0, .slice none 0 0, .slice none 0 0, .slice none 0 0, .slice none 0 0, .slice none 0 0, .slice none 0 0, .slice none 0 0, .slice none 0 0]).cells 51)).setRow w2.heap.size (ccells c h2).toArray) none_ := (Chg.alloc w2 _ none_).trans (Chg.setRow _ w2.heap.size _ (S := fun k => k = w2.heap.size) rfl) fun k hk h => by omega
  refine WL_turn (fun W => Chg w W none_ ∧ Blk W w.heap.size 51 (ccells c h) ∧ Blk W (w.alloc (.cells (ccells c h).toArray 51)).heap.size 51 (ccells d k) ∧ Blk W w2.heap.size 51 (ccells c h2) ∧ CirLent W ((w.alloc (.cells (ccells c h).toArray 51)).alloc (.cells (ccells d k).toArray 51)).heap.size c h2 js2) ⟨hC2'.trans hcc fun _ _ h => h, hA2.chg hcc id, hB2.chg hcc id, (Blk.newA w2 (Value.agg #[nu 0, .slice none 0 0, .slice none 0 0, .slice none 0 0, .slice none 0 0, .slice none 0 0, .slice none 0 0, .slice none 0 0, .slice none 0 0, .slice none 0 0, .slice none 0 0]).cells 51).set (ccells c h2), hL2.chg hcc⟩ ?_
  clear hcc hC2' hA2 hB2 hL2 hC2 hld hA0 hB0 hC0
  generalize w2.heap.size = b5
  generalize ((w.alloc (.cells (ccells c h).toArray 51)).alloc (.cells (ccells d k).toArray 51)).heap.size = base
  rintro w3 ⟨hC3, hA3, hB3, hI3, hL3⟩
  repeat' (first
      | (apply WC_seqK; intro K hK)
      | (apply hK; clear hK)
      | (apply WL_nil)
      | (apply thenQ_normal))
  refine WC_inv [(2, pt w.heap.size), (3, pt (w.alloc (.cells (ccells c h).toArray 51)).heap.size), (5, pt b5)] twDs [4, 5] (fun L vals W => ∃ hx jx hy jy b6 b7, TwoSt w3.drew b5 c h2 L vals W hx jx hy jy b6 b7)
    (fun vals W => ∃ hx jx hy jy b6 b7, vals 4 = pt b6 ∧ vals 5 = pt b7 ∧ Chg w3.drew W none_ ∧ Blk W b6 51 (ccells c hx) ∧ Blk W b7 51 (ccells c hy) ∧ CirOwn W w3.drew.heap.size c hx jx ∧ CirOwn W w3.drew.heap.size c hy jy ∧ ∀ i k, (cirRows c hy jy jy c.justice.length i).v.ownBlock = some k → ∀ j, (cirRows c hx jx jx c.justice.length j).v.ownBlock ≠ some k)
    mixed (by kernel_rfl) (by simp) ⟨rfl, rfl, rfl, trivial⟩ (ds_ok 8 (by kernel_rfl) fun i hi => ?_) (by decide) ?_ ?_ ?_ ?_
  · obtain ⟨m, rfl⟩ : ∃ m, i = m + 8 := ⟨i - 8, by omega⟩
    rfl
  · exact ⟨h2, js2, h2, js2, 0, 0, Chg.refl _ _, fun h => (by cases h), fun h => (by cases h), fun h => (by cases h), fun h => (by cases h), fun h => (by cases h), fun h => (by cases h), fun h => (by cases h), fun h => (by cases h), fun h => (by cases h)⟩
  · rintro i o L vals W hi hoo hLi hLd ⟨hx, jx, hy, jy, b6, b7, S⟩
    have hI : Blk W b5 51 (ccells c h2) := Blk.chg (w := w3.drew) hI3 S.chg id
    have hat : CirAt W c h2 js2 := (hL3.at.chg (Chg.refl w3 none_).dr).chg S.chg
    have hle := S.chg.size
    match i, hi, hoo, hLi, hLd with
    | 0, _, hoo, hLi, hLd =>
      obtain rfl := nthEq hoo rfl
      exact Ex.does (does_loadB (by eq_refl) hI rfl) ⟨hx, jx, hy, jy, b6, b7, S.chg, fun _ => by simp [val1], by simpa [mark1, val1] using S.v2, by simpa [mark1, val1] using S.v1, by simpa [mark1, val1] using S.v3, by simpa [mark1, val1] using S.v4, by simpa [mark1, val1] using S.v5, by simpa [mark1, val1] using S.ne, by simpa [mark1, val1] using S.d3, by simpa [mark1, val1] using S.d6⟩
    | 2, _, hoo, hLi, hLd =>
      obtain rfl := nthEq hoo rfl
      exact Ex.does (does_loadB (by eq_refl) hI rfl) ⟨hx, jx, hy, jy, b6, b7, S.chg, by simpa [mark1, val1] using S.v0, fun _ => by simp [val1], by simpa [mark1, val1] using S.v1, by simpa [mark1, val1] using S.v3, by simpa [mark1, val1] using S.v4, by simpa [mark1, val1] using S.v5, by simpa [mark1, val1] using S.ne, by simpa [mark1, val1] using S.d3, by simpa [mark1, val1] using S.d6⟩
    | 1, _, hoo, hLi, hLd =>
      obtain rfl := nthEq hoo rfl
      have e0 := S.v0 (hLd 0 (by simp [twDs]))
      have n3 : L 3 = false := Bool.eq_false_iff.2 fun hh => by have := S.d3 hh; rw [hLi] at this; cases this
      have n6 : L 6 = false := Bool.eq_false_iff.2 fun hh => by have := (S.d6 hh).1; rw [hLi] at this; cases this
      refine Ex.fn (f := 33) (evv1 (by eq_refl) e0) (Copy_cv hat hf.toFits) fun v w' ⟨h', js', e, hOw, hC⟩ => ?_
      have S' := S.same hC
      refine ⟨h', js', hy, jy, b6, b7, S'.chg, by simpa [mark1, val1] using S'.v0, by simpa [mark1, val1] using S'.v2, fun _ => ⟨by simpa [val1] using e, hOw.mono hle⟩, fun hh => ?_, fun hh => ?_, by simpa [mark1, val1] using S'.v5, by simpa [mark1, val1] using S'.ne, by simp [mark1], fun hh => ?_⟩
      · simp [mark1, n3] at hh
      · obtain ⟨g1, g2, cs, g3, g4, _⟩ := S'.v4 (by simpa [mark1] using hh)
        exact ⟨by simpa [val1] using g1, g2, cs, g3, g4, fun hh => by simp [mark1, n6] at hh⟩
      · simp [mark1, n6] at hh
    | 3, _, hoo, hLi, hLd =>
      obtain rfl := nthEq hoo rfl
      have e2 := S.v2 (hLd 2 (by simp [twDs]))
      have l1 := hLd 1 (by simp [twDs])
      have hxo := (S.v1 l1).2
      refine Ex.fn (f := 33) (evv1 (by eq_refl) e2) (Copy_cv hat hf.toFits) fun v w' ⟨h', js', e, hOw, hC⟩ => ?_
      have S' := S.same hC
      refine ⟨hx, jx, h', js', b6, b7, S'.chg, by simpa [mark1, val1] using S'.v0, by simpa [mark1, val1] using S'.v2, by simpa [mark1, val1] using S'.v1, fun _ => ⟨by simpa [val1] using e, hOw.mono hle, fun i k hk j hj => ?_⟩, by simpa [mark1, val1] using S'.v4, by simpa [mark1, val1] using S'.v5, by simpa [mark1, val1] using S'.ne, by simp [mark1, l1], by simpa [mark1, val1] using S'.d6⟩
      have g1 := (hOw.lt hk).1
      have g2 := (hxo.lt hj).2
      omega
    | 4, _, hoo, hLi, hLd =>
      obtain rfl := nthEq hoo rfl
      have n6 : L 6 = false := Bool.eq_false_iff.2 fun hh => by have := (S.d6 hh).2; rw [hLi] at this; cases this
      refine Ex.does (does_alloc (t := 51)) ?_
      have S' := S.same (Chg.alloc W (.cells (Value.agg #[nu 0, .slice none 0 0, .slice none 0 0, .slice none 0 0, .slice none 0 0, .slice none 0 0, .slice none 0 0, .slice none 0 0, .slice none 0 0, .slice none 0 0, .slice none 0 0]).cells 51) none_)
      refine ⟨hx, jx, hy, jy, W.heap.size, b7, S'.chg, by simpa [mark1, val1] using S'.v0, by simpa [mark1, val1] using S'.v2, by simpa [mark1, val1] using S'.v1, by simpa [mark1, val1] using S'.v3, fun _ => ⟨by simp [val1], hle, _, Blk.newA W (Value.agg #[nu 0, .slice none 0 0, .slice none 0 0, .slice none 0 0, .slice none 0 0, .slice none 0 0, .slice none 0 0, .slice none 0 0, .slice none 0 0, .slice none 0 0, .slice none 0 0]).cells 51, rfl, fun hh => by simp [mark1, n6] at hh⟩, by simpa [mark1, val1] using S'.v5, fun _ h5 => ?_, by simpa [mark1, val1] using S'.d3, fun hh => by simp [mark1, n6] at hh⟩
      obtain ⟨_, _, cs, g3, _⟩ := S.v5 (by simpa [mark1] using h5)
      have := g3.lt
      omega
    | 5, _, hoo, hLi, hLd =>
      obtain rfl := nthEq hoo rfl
      refine Ex.does (does_alloc (t := 51)) ?_
      have S' := S.same (Chg.alloc W (.cells (Value.agg #[nu 0, .slice none 0 0, .slice none 0 0, .slice none 0 0, .slice none 0 0, .slice none 0 0, .slice none 0 0, .slice none 0 0, .slice none 0 0, .slice none 0 0, .slice none 0 0]).cells 51) none_)
      refine ⟨hx, jx, hy, jy, b6, W.heap.size, S'.chg, by simpa [mark1, val1] using S'.v0, by simpa [mark1, val1] using S'.v2, by simpa [mark1, val1] using S'.v1, by simpa [mark1, val1] using S'.v3, by simpa [mark1, val1] using S'.v4, fun _ => ⟨by simp [val1], hle, _, Blk.newA W (Value.agg #[nu 0, .slice none 0 0, .slice none 0 0, .slice none 0 0, .slice none 0 0, .slice none 0 0, .slice none 0 0, .slice none 0 0, .slice none 0 0, .slice none 0 0, .slice none 0 0]).cells 51, rfl⟩, fun h4 _ => ?_, by simpa [mark1, val1] using S'.d3, by simpa [mark1, val1] using S'.d6⟩
      obtain ⟨_, _, cs, g3, _⟩ := S.v4 (by simpa [mark1] using h4)
      have := g3.lt
      omega
    | 6, _, hoo, hLi, hLd =>
      obtain rfl := nthEq hoo rfl
      obtain ⟨e1, o1⟩ := S.v1 (hLd 1 (by simp [twDs]))
      obtain ⟨e3, o3, a3⟩ := S.v3 (hLd 3 (by simp [twDs]))
      obtain ⟨e4, g4, cs, B6, lc, _⟩ := S.v4 (hLd 4 (by simp [twDs]))
      obtain ⟨e5, g5, cs7, B7, lc7⟩ := S.v5 (hLd 5 (by simp [twDs]))
      have hne := S.ne (hLd 4 (by simp [twDs])) (hLd 5 (by simp [twDs]))
      have l1 := hLd 1 (by simp [twDs])
      have l4 := hLd 4 (by simp [twDs])
      refine Ex.doesU (does_storeA (t1 := 51) (vs := ccells c hx) (o := 0) (b := b6) (evv (by eq_refl) e4) (evv (by eq_refl) e1) B6 rfl (by rw [lc]; exact Nat.le_refl 11) (by simp [ccells, Value.oneCell'])) ?_
      rw [splice_all cs (ccells c hx) lc]
      have hcc : Chg W (W.setRow b6 (ccells c hx).toArray) (fun k => k = b6) := Chg.setRow _ _ _ rfl
      refine ⟨hx, jx, hy, jy, b6, b7, S.chg.trans hcc fun k hk hh => by omega, by simpa [mark1, val1] using S.v0, by simpa [mark1, val1] using S.v2, fun _ => ⟨by simpa [val1] using e1, o1.store B6⟩, fun _ => ⟨by simpa [val1] using e3, o3.store B6, a3⟩, fun _ => ⟨by simpa [val1] using e4, g4, ccells c hx, B6.set _, rfl, fun _ => rfl⟩, fun _ => ⟨by simpa [val1] using e5, g5, cs7, B7.chg hcc (fun h => hne h.symm), lc7⟩, fun _ _ => hne, by simpa [mark1, val1] using S.d3, fun _ => by simp [mark1, l1, l4]⟩
    | n + 7, hi, _, _, _ => exact absurd hi (by simp)
  · rintro i o L vals W hi hoo hLd ⟨hx, jx, hy, jy, b6, b7, S⟩
    obtain rfl : i = 7 := by simpa using hi
    obtain rfl := nthEq hoo rfl
    obtain ⟨e1, o1⟩ := S.v1 (hLd 1 (by decide))
    obtain ⟨e3, o3, a3⟩ := S.v3 (hLd 3 (by decide))
    obtain ⟨e4, g4, cs, B6, lc, l6⟩ := S.v4 (hLd 4 (by decide))
    obtain ⟨e5, g5, cs7, B7, lc7⟩ := S.v5 (hLd 5 (by decide))
    have hne := S.ne (hLd 4 (by decide)) (hLd 5 (by decide))
    obtain rfl := l6 (hLd 6 (by decide))
    refine Ex.doesU (does_storeA (t1 := 51) (vs := ccells c hy) (o := 0) (b := b7) (evv (by eq_refl) e5) (evv (by eq_refl) e3) B7 rfl (by rw [lc7]; exact Nat.le_refl 11) (by simp [ccells, Value.oneCell'])) ?_
    rw [splice_all cs7 (ccells c hy) lc7]
    have hcc : Chg W (W.setRow b7 (ccells c hy).toArray) (fun k => k = b7) := Chg.setRow _ _ _ rfl
    exact ⟨hx, jx, hy, jy, b6, b7, e4, e5, S.chg.trans hcc fun k hk hh => by omega, B6.chg hcc hne, B7.set _, o1.store B7, o3.store B7, a3⟩
  · rintro vals w4 ⟨hx, jx, hy, jy, b6, b7, e4, e5, hC4, hX4, hY4, hox4, hoy4, hap⟩
    change thenQ _ _ _ [(6, vals 4), (7, vals 5), (2, pt w.heap.size), (3, pt (w.alloc (.cells (ccells c h).toArray 51)).heap.size), (5, pt b5)] w4
    rw [e4, e5]
    clear e4 e5
    have hC4' : Chg w w4 none_ := hC3.dr.trans hC4 fun _ _ h => h
    have hA4 : Blk w4 w.heap.size 51 (ccells c h) := Blk.chg (w := w3.drew) hA3 hC4 id
    have hB4 : Blk w4 (w.alloc (.cells (ccells c h).toArray 51)).heap.size 51 (ccells d k) := Blk.chg (w := w3.drew) hB3 hC4 id
    have hI4 : Blk w4 b5 51 (ccells c h2) := Blk.chg (w := w3.drew) hI3 hC4 id
    have hL4 : CirLent w4 base c h2 js2 := CirLent.chg (hL3.chg (Chg.refl w3 none_).dr) hC4
    have hlL : ∀ i k, (lentRow c h2 js2 i).v.ownBlock = some k → k < w3.drew.heap.size := fun i k hk => (World.ownsRow.lt (hL3 i) k hk).2
    have hlA : w.heap.size < w3.drew.heap.size := hA3.lt
    have hlB : (w.alloc (.cells (ccells c h).toArray 51)).heap.size < w3.drew.heap.size := hB3.lt
    have hlI : b5 < w3.drew.heap.size := hI3.lt
    have hww : w.heap.size ≤ w3.drew.heap.size := hC3.size
    generalize w3.drew.heap.size = lo at *
    clear hL3 hI3 hA3 hB3 hC3 hC4 w3
    obtain ⟨β, hβ⟩ : ∃ b : Bool, b = true ↔ c = d := by classical exact ⟨decide _, decide_eq_true_iff⟩
    have f1 : ∀ W, Chg w4 W none_ → CV Try.prog 34 [.agg (ccells c hx).toArray, .agg (ccells c h).toArray] W fun v w' => v = .bool true ∧ Chg W w' none_ := fun W hW => (sameCircuit_cv (hox4.at.chg hW) ((H.chg hC4').chg hW) ho ho).mono fun v w' ⟨b, e, h1, h2⟩ => ⟨by rw [e, h1.2 rfl], h2⟩
    have f2 : ∀ W, Chg w4 W none_ → CV Try.prog 35 [.agg (ccells c h).toArray, .agg (ccells d k).toArray] W fun v w' => v = .bool β ∧ Chg W w' none_ := fun W hW => (Same_cv ((H.chg hC4').chg hW) ((H'.chg hC4').chg hW) ho ho').mono fun v w' ⟨b, e, h1, h2⟩ => ⟨by rw [e]; congr 1; rw [Bool.eq_iff_iff, h1, hβ], h2⟩
    have f3 : ∀ W, Chg w4 W none_ → CV Try.prog 34 [.agg (ccells c h).toArray, .agg (ccells d k).toArray] W fun v w' => v = .bool β ∧ Chg W w' none_ := fun W hW => (sameCircuit_cv ((H.chg hC4').chg hW) ((H'.chg hC4').chg hW) ho ho').mono fun v w' ⟨b, e, h1, h2⟩ => ⟨by rw [e]; congr 1; rw [Bool.eq_iff_iff, h1, hβ], h2⟩
    have f4 : ∀ W, Chg w4 W none_ → CV Try.prog 35 [.agg (ccells c hx).toArray, .agg (ccells c h2).toArray] W fun v w' => v = .bool true ∧ Chg W w' none_ := fun W hW => (Same_cv (hox4.at.chg hW) (hL4.at.chg hW) ho ho).mono fun v w' ⟨b, e, h1, h2⟩ => ⟨by rw [e, h1.2 rfl], h2⟩
    have hend : ∀ W, Chg w4 W none_ → CV Try.prog 36 [.agg (ccells c hx).toArray, nu (-7)] W fun v w' => Chg W w' (fun k => ∃ i, (cirRows c hx jx jx c.justice.length i).v.ownBlock = some k) := fun W hW => spoilCircuit_cv (hox4.same hW) ho
    clear hβ
    repeat' (first
      | (apply WC_seqK; intro K hK)
      | (apply hK; clear hK)
      | (apply thenQ_normal))
    refine WC_turn (fun W => Chg w4 W none_) (Chg.refl _ _) ?_
    intro W9 hW9
    refine WC_draws [(0, true), (1, true), (2, false), (3, true), (4, true), (5, true), (6, true), (8, true), (9, true), (7, false), (10, false), (11, true), (12, true), (13, true), (14, true), (15, true), (16, false), (17, true), (18, true)] (fun W => Chg w4 W none_) mixed (by kernel_rfl) (by kernel_rfl) ?_
    have hS := hW9.dr
    clear hW9
    cases β
    all_goals
      repeat' (first
      | (apply O_loadW; eq_refl; (exact fun _ h => hX4.chg h id); eq_refl; assumption)
      | (apply O_loadW; eq_refl; (exact fun _ h => hA4.chg h id); eq_refl; assumption)
      | (apply O_loadW; eq_refl; (exact fun _ h => hB4.chg h id); eq_refl; assumption)
      | (apply O_loadW; eq_refl; (exact fun _ h => hI4.chg h id); eq_refl; assumption)
      | (apply O_fn; eq_refl; (first | (apply f1; assumption) | (apply f2; assumption) | (apply f3; assumption) | (apply f4; assumption)); rintro _ W2 ⟨rfl, hE⟩; have hS2 := Chg.trans (by assumption) hE (fun _ _ h => h); clear hE; refine ⟨fun _ => hS2, ?_⟩)
      | (apply WC_seqK; intro K hK)
      | (apply hK; clear hK)
      | (apply WC_region)
      | (apply thenQ_normal)
      | (apply WC_skip)
      | (apply WC_if_false; eq_refl)
      | (apply WS_nil)
      | (apply WS_next; eq_refl)
      | (apply WO_on0; eq_refl)
      | (apply WO_onG; eq_refl; eq_refl; eq_refl; eq_refl)
      | (apply O_pv; eq_refl; (first | exact trivial | omega); (first | assumption | exact trivial))
      | (apply O_neqB; eq_refl; eq_refl; (first | assumption | exact trivial))
      | (apply WL_on0; eq_refl))
    all_goals
      refine WX_turn (fun W => Chg w4 W none_) (by assumption) ?_
      intro w5 hC5
      have hX5 := hX4.chg hC5 id
      have hnB : ∀ b cs, Blk w4 b 51 cs → ¬ ∃ i, (cirRows c hx jx jx c.justice.length i).v.ownBlock = some b := fun b cs hb ⟨i, hi⟩ => own_blk (hox4.own i) hb (by rw [cirRows_t]; exact rt_51 i) hi
      repeat' (first
      | (apply X_fn; eq_refl; (exact hend _ hC5); intro v6 w6 hC6)
      | (apply WC_seqK; intro K hK)
      | (apply hK; clear hK)
      | (apply WC_region)
      | (apply WL_nil)
      | (apply thenQ_normal)
      | (apply WL_on0; eq_refl)
      | (apply X_loadW; eq_refl; (first | assumption | (apply Blk.alloc; assumption) | apply Blk.new | apply Blk.newA | (apply Blk.alloc; first | apply Blk.newA | (apply Blk.alloc; first | assumption | apply Blk.newA))); eq_refl))
      have hY6 := (hY4.chg hC5 id).chg hC6 (hnB _ _ hY4)
      have hA6 := (hA4.chg hC5 id).chg hC6 (hnB _ _ hA4)
      have hI6 := (hI4.chg hC5 id).chg hC6 (hnB _ _ hI4)
      have hoy6 : CirOwn w6 lo c hy jy := Rows.chg (hoy4.same hC5) hC6 fun i k hk ⟨j, hj⟩ => hap i k hk j hj
      have hL6 : CirLent w6 base c h2 js2 := fun i => own_chg (own_chg (hL4 i) hC5 fun _ _ => id) hC6 fun k hk ⟨j, hj⟩ => by have h1 := hlL i k hk; have h2 := (hox4.lt hj).1; omega
      have hC6' : Chg w w6 none_ := (hC4'.trans hC5 fun _ _ h => h).trans hC6 fun k hk ⟨j, hj⟩ => by have h2 := (hox4.lt hj).1; omega
      clear hX5 hC5 hC6
      have g1 := sameCircuit_cv hoy6.at (H.chg hC6') ho ho
      repeat' (first
      | (apply X_fn; eq_refl; exact g1; rintro _ w7 ⟨b, rfl, hb7, hC7⟩; obtain rfl := hb7.2 rfl; have hA7 := hA6.chg hC7 id; have hI7 := hI6.chg hC7 id)
      | (apply WL_on0; eq_refl)
      | (apply WL_onG; eq_refl; eq_refl; eq_refl; eq_refl)
      | (apply X_pv; eq_refl; first | exact trivial | omega)
      | (apply X_loadW; eq_refl; (first | assumption | (apply Blk.alloc; assumption) | apply Blk.new | apply Blk.newA | (apply Blk.alloc; first | apply Blk.newA | (apply Blk.alloc; first | assumption | apply Blk.newA))); eq_refl))
      have g2 := keptCircuit_cv (hL6.chg hC7) ((H.chg hC6').chg hC7) ho hf.lens1
      repeat' (first
      | (apply X_fn; eq_refl; exact g2; rintro _ w8 ⟨rfl, hC8⟩)
      | (apply X_fn; eq_refl; exact (hwk _); rintro _ w9 ⟨rfl, hC9⟩)
      | (apply hK; clear hK)
      | (apply WL_nil)
      | (apply thenQ_normal)
      | (apply WC_ret)
      | (apply ret1; eq_refl)
      | (apply WL_on0; eq_refl)
      | (apply WL_onG; eq_refl; eq_refl; eq_refl; eq_refl)
      | (apply X_pv; eq_refl; first | exact trivial | omega))
      exact ⟨rfl, ((hC6'.trans hC7 fun _ _ h => h).trans hC8 fun _ _ h => h).trans hC9 fun _ _ h => h⟩
end SC
end Go.Proofs.Ytkndegjodnciaaa
end
