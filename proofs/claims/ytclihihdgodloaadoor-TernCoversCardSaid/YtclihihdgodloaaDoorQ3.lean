/- Texts of this seat, one behind the other: K5 L1 L2 G3 G4 G5 G6 G7 H1 L3 L4 L5 L6 L7 L8 L9 S2 S3 S4 S5 S6 S7 S8 S9 S10 S11 S12 S13 L10 S14 S15 S16 S17 T1 S18 S19 S20 S21 S22 S23 S24 S27 S28 S29 S30 S31 S32 S33 S36 S34 S35 M1 M2 M3 S37 S38 S39 S40 O0 T3 T4 T5 T6 T7 T8 O9 T9 T2 T10 T11 T12 T13 T14. -/
import Derived.Test.YtclihihdgodloaaDoorQ2
import Derived.SizedLaws
import Derived.ChangeArms
import Derived.Laws.CopyRow
section
/- A circuit that comes in, with its reach: numbers that fit, lists that memory holds, no room where there is no row. -/
set_option linter.unusedVariables false
set_option linter.unusedSimpArgs false
namespace Go.Proofs.YtclihihdgodloaaDoor
namespace SC
open Go.Proofs
set_option maxRecDepth 100000
theorem weightsAll_mem {H : Type} {P : Program} {e : TypeId} : ∀ {l : List (DataW H)} {d : DataW H}, d ∈ l → ∀ n ∈ d.weights P e, n ∈ DataW.weightsAll P e l
  | d' :: r, d, hd, n, hn => by
    simp only [DataW.weightsAll, List.mem_append]
    rcases List.mem_cons.1 hd with rfl | h
    · exact Or.inl hn
    · exact Or.inr (weightsAll_mem h n hn)
section
variable {H : Type} {enc : TypeId × Value → H} {W : World} {base : Nat} {spare : Nat → Bool} {held : Bool}
/-- A row that comes in. -/
theorem openRowS {α : Type} (en : α → List Value) (Good : α → DataW H → Prop) {t e : TypeId} {sz : Nat} (ht : Tryd.prog.underlying t = some (.slice e)) (hsz : Tryd.prog.cellsOf e = sz) (hl : ∀ a, (en a).length = sz)
    (he : ∀ (fuel : Nat) (cs : List Value) (x : DataW H × List MemPlace), DataW.trod enc Tryd.prog W base spare held fuel e cs = some x → ∃ a, en a = cs ∧ Good a x.1) {fuel : Nat} {cs : List Value} {x : DataW H × List MemPlace}
    (h : DataW.trod enc Tryd.prog W base spare held fuel t cs = some x) : ∃ (A : Option Addr) (cp : Nat) (l : List α), cs = [.slice A l.length cp] ∧ RowA W en sz A l ∧ (∀ a ∈ l, ∃ d, Good a d ∧ ∀ n ∈ d.weights Tryd.prog e, n ∈ x.1.weights Tryd.prog t) ∧ l.length ≤ maxLen ∧ (A = none → cp = 0) ∧ (∀ R, (∀ n ∈ x.1.weights Tryd.prog t, n ≤ R) → l.length * Tryd.prog.bytesOf e ≤ R) := by
  rcases DataW.trod_slice ht h with ⟨rfl, _⟩ | ⟨a, len, cap, elems, rest, n, _, rfl, hx0, hb, hlc, hcm, hel, hi, _⟩
  · exact ⟨none, 0, [], rfl, fun k hk => absurd hk (Nat.not_lt_zero _), fun a ha => (by cases ha), Nat.zero_le _, fun _ => rfl, fun R _ => by simp⟩
  · have key : ∀ i, i < len → ∃ y : α, (∃ d, Good y d ∧ ∀ n ∈ d.weights Tryd.prog e, n ∈ x.1.weights Tryd.prog t) ∧ ∀ j u, (en y)[j]? = some u → W.cell? ((a.add (i * sz)).add j) = some u := fun i hlt => by
      have h1 := hi i hlt
      have hlt' : i < elems.length := by omega
      rw [List.getElem?_eq_getElem hlt'] at h1
      obtain ⟨cs, hc, hx⟩ := Option.bind_eq_some_iff.1 h1
      rw [hsz] at hc
      obtain ⟨_, hcl, hat⟩ := World.cells?_some hc
      obtain ⟨y, rfl, hg⟩ := he _ _ _ hx
      refine ⟨y, ⟨_, hg, fun m hm => ?_⟩, fun j u hj => ?_⟩
      · rw [hx0]
        simp only [DataW.weights, ht, List.mem_cons, List.mem_append]
        exact .inr (.inl (weightsAll_mem (List.mem_map.2 ⟨_, List.getElem_mem hlt', rfl⟩) m hm))
      · have hjl : j < sz := by have := (List.getElem?_eq_some_iff.1 hj).1; rwa [hl] at this
        rw [hat j hjl]
        exact hj
    obtain ⟨l, hll, hq⟩ := listOf key
    subst hll
    refine ⟨some a, cap, l, rfl, fun k hk => ⟨a, rfl, fun j u hj => ?_⟩, fun y hy => ?_, Nat.le_trans hlc hcm, fun h => (by cases h), fun R hR => ?_⟩
    · rw [show (k : Int).toNat = k by omega]
      exact (hq k hk).2 j u hj
    · obtain ⟨i, hi', rfl⟩ := List.mem_iff_getElem.1 hy
      exact (hq i hi').1
    · have := hR ((elems.length + rest.length) * Tryd.prog.bytesOf e) (by rw [hx0]; simp [DataW.weights, ht])
      rw [← hel]
      exact Nat.le_trans (Nat.mul_le_mul_right _ (Nat.le_add_right _ _)) this
theorem openFieldS {t : TypeId} {fs : Array Field} {fuel : Nat} {cs : List Value} {x : DataW H × List MemPlace} (ht : Tryd.prog.underlying t = some (.struct fs)) (hc : Tryd.prog.cellsOf t = fs.size) (h : DataW.trod enc Tryd.prog W base spare held fuel t cs = some x) :
    cs.length = fs.size ∧ ∃ n, ∀ (i : Nat) (f : Field) (hi : i < cs.length), fs[i]? = some f → f.offset = i → Tryd.prog.cellsOf f.type = 1 → ∃ y, DataW.trod enc Tryd.prog W base spare held n f.type [cs[i]] = some y ∧ ∀ n ∈ y.1.weights Tryd.prog f.type, n ∈ x.1.weights Tryd.prog t := by
  obtain ⟨xs, n, _, hx0, hcl, hxl, hf⟩ := DataW.trod_struct ht h
  refine ⟨hcl.trans hc, n, fun i f hi hfi ho h1 => ?_⟩
  have := hf i f hfi
  have hx : i < xs.length := by rw [hxl, ← hc, ← hcl]; exact hi
  rw [ho, h1, List.drop_eq_getElem_cons hi, List.getElem?_eq_getElem hx] at this
  refine ⟨_, this, fun m hm => ?_⟩
  rw [hx0]
  simp only [DataW.weights, ht]
  exact DataW.weights_mem_each (j := i) (t := f.type) (d := xs[i].1) (by rw [List.getElem?_map, Array.getElem?_toList, hfi]; rfl) (by rw [List.getElem?_map, List.getElem?_eq_getElem hx]; rfl) m hm
theorem openIntS {fuel : Nat} {cs : List Value} {x : DataW H × List MemPlace} (h : DataW.trod enc Tryd.prog W base spare held fuel 3 cs = some x) : ∃ a, icell a = cs ∧ fits a := by
  obtain ⟨z, rfl, _, w1⟩ := DataW.trod_int Tryd.underlying3 h
  refine ⟨z, rfl, ?_⟩
  simp [Lit.wf, IntKind.min, IntKind.max, IntKind.signed, IntKind.bits] at w1; unfold fits; omega
theorem openTriS {t : TypeId} {fs : Array Field} (ht : Tryd.prog.underlying t = some (.struct fs)) (hc : Tryd.prog.cellsOf t = 3) (hs : fs.size = 3) (hf : ∀ i, i < 3 → ∃ f, fs[i]? = some f ∧ f.offset = i ∧ f.type = 3) {fuel : Nat} {cs : List Value} {x : DataW H × List MemPlace}
    (h : DataW.trod enc Tryd.prog W base spare held fuel t cs = some x) : ∃ a, tcells a = cs ∧ TriFits a := by
  obtain ⟨hl, n, hfl⟩ := openField ht (hc.trans hs.symm) h
  rw [hs] at hl
  have one : ∀ (i : Nat) (hi : i < cs.length), ∃ z : Int, cs[i] = nu z ∧ fits z := fun i hi => by
    obtain ⟨f, h1, h2, h3⟩ := hf i (by omega)
    obtain ⟨y, hy⟩ := hfl i f hi h1 h2 (by rw [h3]; kernel_rfl)
    rw [h3] at hy
    obtain ⟨z, hz, hw⟩ := openIntS hy
    exact ⟨z, (List.cons.inj hz).1.symm, hw⟩
  obtain ⟨p, h0, f0⟩ := one 0 (by omega)
  obtain ⟨q, h1, f1⟩ := one 1 (by omega)
  obtain ⟨r, h2, f2⟩ := one 2 (by omega)
  refine ⟨(p, q, r), ?_, f0, f1, f2⟩
  apply List.ext_getElem (by rw [hl]; rfl)
  intro i hi1 hi2
  match i, hi2 with
  | 0, _ => exact h0.symm
  | 1, _ => exact h1.symm
  | 2, _ => exact h2.symm
theorem openAndS {fuel : Nat} {cs : List Value} {x : DataW H × List MemPlace} (h : DataW.trod enc Tryd.prog W base spare held fuel 61 cs = some x) : ∃ a, tcells a = cs ∧ TriFits a :=
  openTriS Tryd.underlying61 (by kernel_rfl) rfl (fun i hi => match i, hi with
    | 0, _ => ⟨_, rfl, rfl, rfl⟩
    | 1, _ => ⟨_, rfl, rfl, rfl⟩
    | 2, _ => ⟨_, rfl, rfl, rfl⟩) h
theorem openLatchS {fuel : Nat} {cs : List Value} {x : DataW H × List MemPlace} (h : DataW.trod enc Tryd.prog W base spare held fuel 59 cs = some x) : ∃ a, tcells a = cs ∧ TriFits a :=
  openTriS Tryd.underlying59 (by kernel_rfl) rfl (fun i hi => match i, hi with
    | 0, _ => ⟨_, rfl, rfl, rfl⟩
    | 1, _ => ⟨_, rfl, rfl, rfl⟩
    | 2, _ => ⟨_, rfl, rfl, rfl⟩) h
theorem bytes3 : Tryd.prog.bytesOf 3 = 8 := by kernel_rfl
theorem bytes70 : Tryd.prog.bytesOf 59 = 24 := by kernel_rfl
theorem bytes43 : Tryd.prog.bytesOf 61 = 24 := by kernel_rfl
theorem bytes45 : Tryd.prog.bytesOf 22 = 24 := by kernel_rfl
theorem bytes117 : Tryd.prog.bytesOf 130 = 32 := by kernel_rfl
theorem bytes9 : Tryd.prog.bytesOf 9 = 16 := by kernel_rfl
theorem openIntsS {fuel : Nat} {cs : List Value} {x : DataW H × List MemPlace} (h : DataW.trod enc Tryd.prog W base spare held fuel 22 cs = some x) : ∃ y, lcell y = cs ∧ (RowA W icell 1 y.A y.l ∧ y.l.length ≤ maxLen ∧ (y.A = none → y.cp = 0) ∧ ∀ R, (∀ n ∈ x.1.weights Tryd.prog 22, n ≤ R) → y.l.length * 8 ≤ R) := by
  obtain ⟨A, cp, l, rfl, hr, _, hl, hn, hw⟩ := openRowS icell (fun _ _ => True) Tryd.underlying22 (by kernel_rfl) ilen (fun _ _ _ h => by obtain ⟨a, h1, _⟩ := openIntS h; exact ⟨a, h1, trivial⟩) h
  rw [bytes3] at hw
  exact ⟨⟨A, cp, l⟩, rfl, hr, hl, hn, hw⟩
/-- A circuit that comes in. -/
theorem openCirS {v : Value} {d : DataW H} {ps : List MemPlace} {r : Reach} {b0 : Nat} (hv : Value.okWide Tryd.prog W r b0 29 v) (h : DataW.Trod enc Tryd.prog W base spare held 29 v d ps) (hz : ∀ n ∈ d.weights Tryd.prog 29, n ≤ 140737488351232) :
    ∃ (c : Circ) (h js : Hd), v = .agg (ccells c h).toArray ∧ CirAt W c h js ∧ c.Sane ∧ c.Okay ∧ c.Fits1 ∧ Nils h js := by
  obtain ⟨cs, rfl, hsz⟩ := Go.WideShapes.okWide_struct Tryd.underlying29 hv
  obtain ⟨fuel, hf⟩ := h
  rw [agg_cells] at hf
  obtain ⟨hl, n, hfl⟩ := openFieldS Tryd.underlying29 (by kernel_rfl) hf
  have hl : cs.toList.length = 11 := hl
  obtain ⟨y0, h0, g0⟩ := hfl 0 _ (by rw [hl]; decide) rfl rfl (by kernel_rfl)
  obtain ⟨y1, h1, g1⟩ := hfl 1 _ (by rw [hl]; decide) rfl rfl (by kernel_rfl)
  obtain ⟨y2, h2, g2⟩ := hfl 2 _ (by rw [hl]; decide) rfl rfl (by kernel_rfl)
  obtain ⟨y3, h3, g3⟩ := hfl 3 _ (by rw [hl]; decide) rfl rfl (by kernel_rfl)
  obtain ⟨y4, h4, g4⟩ := hfl 4 _ (by rw [hl]; decide) rfl rfl (by kernel_rfl)
  obtain ⟨y5, h5, g5⟩ := hfl 5 _ (by rw [hl]; decide) rfl rfl (by kernel_rfl)
  obtain ⟨y6, h6, g6⟩ := hfl 6 _ (by rw [hl]; decide) rfl rfl (by kernel_rfl)
  obtain ⟨y7, h7, g7⟩ := hfl 7 _ (by rw [hl]; decide) rfl rfl (by kernel_rfl)
  obtain ⟨y8, h8, g8⟩ := hfl 8 _ (by rw [hl]; decide) rfl rfl (by kernel_rfl)
  obtain ⟨y9, h9, g9⟩ := hfl 9 _ (by rw [hl]; decide) rfl rfl (by kernel_rfl)
  obtain ⟨y10, h10, g10⟩ := hfl 10 _ (by rw [hl]; decide) rfl rfl (by kernel_rfl)
  obtain ⟨m, e0, _, _⟩ := DataW.trod_int Tryd.underlying3 h0
  have oi : ∀ (fuel : Nat) (cs : List Value) (x : DataW H × List MemPlace), DataW.trod enc Tryd.prog W base spare held fuel 3 cs = some x → ∃ a, icell a = cs ∧ True := fun _ _ _ h => by obtain ⟨a, h1, _⟩ := openIntS h; exact ⟨a, h1, trivial⟩
  obtain ⟨A1, c1, l1, e1, r1, _, n1, z1, w1⟩ := openRowS icell (fun _ _ => True) Tryd.underlying22 (by kernel_rfl) ilen oi h1
  obtain ⟨A2, c2, l2, e2, r2, k2, n2, z2, w2⟩ := openRowS tcells (fun a _ => TriFits a) Tryd.underlying23 (by kernel_rfl) tlen (fun _ _ _ h => openLatchS h) h2
  obtain ⟨A3, c3, l3, e3, r3, _, n3, z3, w3⟩ := openRowS icell (fun _ _ => True) Tryd.underlying22 (by kernel_rfl) ilen oi h3
  obtain ⟨A4, c4, l4, e4, r4, _, n4, z4, w4⟩ := openRowS icell (fun _ _ => True) Tryd.underlying22 (by kernel_rfl) ilen oi h4
  obtain ⟨A5, c5, l5, e5, r5, _, n5, z5, w5⟩ := openRowS icell (fun _ _ => True) Tryd.underlying22 (by kernel_rfl) ilen oi h5
  obtain ⟨A6, c6, l6, e6, r6, k6, n6, z6, w6⟩ := openRowS lcell (fun y d => RowA W icell 1 y.A y.l ∧ y.l.length ≤ maxLen ∧ (y.A = none → y.cp = 0) ∧ ∀ R, (∀ n ∈ d.weights Tryd.prog 22, n ≤ R) → y.l.length * 8 ≤ R) Tryd.underlying24 (by kernel_rfl) (fun _ => rfl) (fun _ _ _ h => openIntsS h) h6
  obtain ⟨A7, c7, l7, e7, r7, _, n7, z7, w7⟩ := openRowS icell (fun _ _ => True) Tryd.underlying22 (by kernel_rfl) ilen oi h7
  obtain ⟨A8, c8, l8, e8, r8, k8, n8, z8, w8⟩ := openRowS tcells (fun a _ => TriFits a) Tryd.underlying25 (by kernel_rfl) tlen (fun _ _ _ h => openAndS h) h8
  obtain ⟨A9, c9, l9, e9, r9, k9, n9, z9, w9⟩ := openRowS scells (fun s _ => (0 ≤ s.kind ∧ s.kind ≤ 255) ∧ (-9223372036854775808 ≤ s.at_ ∧ s.at_ ≤ 9223372036854775807) ∧ s.name.size ≤ maxLen) Tryd.underlying26 (by kernel_rfl) slen (fun _ _ _ h => openSym h) h9
  obtain ⟨A10, c10, l10, e10, r10, k10, n10, z10, w10⟩ := openRowS bcell (fun s _ => s.size ≤ maxLen) Tryd.underlying27 (by kernel_rfl) blen (fun _ _ _ h => openTxt h) h10
  rw [bytes3] at w1 w3 w4 w5 w7
  rw [bytes70] at w2
  rw [bytes43] at w8
  rw [bytes45] at w6
  rw [bytes117] at w9
  rw [bytes9] at w10
  have v1 := w1 _ fun n hn => hz n (g1 n hn)
  have v2 := w2 _ fun n hn => hz n (g2 n hn)
  have v3 := w3 _ fun n hn => hz n (g3 n hn)
  have v4 := w4 _ fun n hn => hz n (g4 n hn)
  have v5 := w5 _ fun n hn => hz n (g5 n hn)
  have v6 := w6 _ fun n hn => hz n (g6 n hn)
  have v7 := w7 _ fun n hn => hz n (g7 n hn)
  have v8 := w8 _ fun n hn => hz n (g8 n hn)
  have v9 := w9 _ fun n hn => hz n (g9 n hn)
  have v10 := w10 _ fun n hn => hz n (g10 n hn)
  have k6' : ∀ y ∈ l6, RowA W icell 1 y.A y.l ∧ y.l.length ≤ maxLen ∧ (y.A = none → y.cp = 0) ∧ y.l.length * 8 ≤ 140737488351232 := fun y hy => by
    obtain ⟨d, ⟨q1, q2, q3, q4⟩, q5⟩ := k6 y hy
    exact ⟨q1, q2, q3, q4 _ fun n hn => hz n (g6 n (q5 n hn))⟩
  have k9' : ∀ s ∈ l9, (0 ≤ s.kind ∧ s.kind ≤ 255) ∧ (-9223372036854775808 ≤ s.at_ ∧ s.at_ ≤ 9223372036854775807) ∧ s.name.size ≤ maxLen := fun s hs => by obtain ⟨_, q, _⟩ := k9 s hs; exact q
  have k10' : ∀ s ∈ l10, s.size ≤ maxLen := fun s hs => by obtain ⟨_, q, _⟩ := k10 s hs; exact q
  refine ⟨⟨m, l1, l2, l3, l4, l5, l6.map (·.l), l7, l8, l9, l10⟩, fun | 1 => (A1, c1) | 2 => (A2, c2) | 3 => (A3, c3) | 4 => (A4, c4) | 5 => (A5, c5) | 6 => (A6, c6) | 7 => (A7, c7) | 8 => (A8, c8) | 9 => (A9, c9) | 10 => (A10, c10) | _ => (none, 0), fun k => ((l6[k]?).map fun y => (y.A, y.cp)).getD (none, 0), ?_, ?_, ?_, ?_, ?_, ?_, ?_⟩
  · congr 1
    apply Array.ext'
    apply List.ext_getElem (by rw [hl]; rfl)
    intro i hi1 hi2
    match i, hi2 with
    | 0, _ => exact (List.cons.inj e0).1
    | 1, _ => exact (List.cons.inj e1).1
    | 2, _ => exact (List.cons.inj e2).1
    | 3, _ => exact (List.cons.inj e3).1
    | 4, _ => exact (List.cons.inj e4).1
    | 5, _ => exact (List.cons.inj e5).1
    | 6, _ =>
      refine (List.cons.inj e6).1.trans ?_
      show _ = Value.slice A6 (l6.map (·.l)).length c6
      rw [List.length_map]
    | 7, _ => exact (List.cons.inj e7).1
    | 8, _ => exact (List.cons.inj e8).1
    | 9, _ => exact (List.cons.inj e9).1
    | 10, _ => exact (List.cons.inj e10).1
  · refine ⟨r1, r2, r3, r4, r5, fun k hk => ?_, fun k hk => ?_, r7, r8, r9, r10⟩
    · have hk' : k < l6.length := by simpa using hk
      obtain ⟨p, hp, hc⟩ := r6 k hk'
      refine ⟨p, hp, ?_⟩
      have := hc 0 (.slice l6[k].A l6[k].l.length l6[k].cp) rfl
      rw [add_zero'] at this
      rw [this]
      simp [hk']
    · have hk' : k < l6.length := by simpa using hk
      have := (k6' _ (List.getElem_mem hk')).1
      simpa [hk'] using this
  · refine ⟨fun l hl => ?_, fun s hs => (k9' s hs).1, fun s hs => (k9' s hs).2.1, fun s hs => ?_, fun s hs => ?_, ?_⟩
    · obtain ⟨y, hy, rfl⟩ := List.mem_map.1 hl
      have := (k6' y hy).2.1
      simp only [maxLen] at this
      omega
    · have := (k9' s hs).2.2
      simp only [maxLen] at this
      omega
    · have := k10' s hs
      simp only [maxLen] at this
      omega
    · simp only [maxLen] at *
      simp only [List.length_map]
      omega
  · refine ⟨fun n hn => ?_, fun l hl => ?_, fun x hx => (by obtain ⟨_, q, _⟩ := k2 x hx; exact q), fun x hx => (by obtain ⟨_, q, _⟩ := k8 x hx; exact q), fun s hs => ?_⟩
    · simp only [maxLen] at *
      simp only [Circ.lens, List.mem_cons, List.length_map, List.not_mem_nil, or_false] at hn
      rcases hn with rfl | rfl | rfl | rfl | rfl | rfl | rfl | rfl | rfl | rfl <;> omega
    · obtain ⟨y, hy, rfl⟩ := List.mem_map.1 hl
      have := (k6' y hy).2.1
      simp only [maxLen] at this
      omega
    · have := k9' s hs
      simp only [maxLen] at this
      exact ⟨this.1, this.2.1, by omega⟩
  · refine ⟨⟨?_, ?_, ?_, ?_, ?_, ?_, fun l hl => ?_, ?_, ?_, ?_, ?_⟩, ?_, ?_, ?_, ?_, ?_, ?_, ?_⟩
    all_goals first
      | (simp only [List.length_map]; omega)
      | (obtain ⟨y, hy, rfl⟩ := List.mem_map.1 hl
         have := (k6' y hy).2.2.2
         omega)
  · intro i hi
    match i with
    | 1 => exact z1 hi
    | 2 => exact z2 hi
    | 3 => exact z3 hi
    | 4 => exact z4 hi
    | 5 => exact z5 hi
    | 6 => exact z6 hi
    | 7 => exact z7 hi
    | 8 => exact z8 hi
    | 9 => exact z9 hi
    | 10 => exact z10 hi
    | 0 => rfl
    | k + 11 => rfl
  · intro k hk
    cases hy : l6[k]? with
    | none => simp only [hy]; rfl
    | some y =>
      have hm := List.mem_of_getElem? hy
      simp only [hy, Option.map_some, Option.getD_some] at hk ⊢
      exact (k6' y hm).2.2.1 hk
end
end SC
end Go.Proofs.YtclihihdgodloaaDoor
end
section
/- trestleref03: size, one, used. -/
set_option linter.unusedVariables false
set_option linter.unusedSimpArgs false
namespace Go.Proofs.YtclihihdgodloaaDoor
namespace SC
open Go.Proofs
attribute [local irreducible] WC WL WX WS WO OX Does DoesU Enters CV Pure thenQ blockQ retQ Wants retQC
set_option maxRecDepth 100000
end SC
end Go.Proofs.YtclihihdgodloaaDoor
end
section
/- trestleref03: one, used, usedAll. -/
set_option linter.unusedVariables false
set_option linter.unusedSimpArgs false
namespace Go.Proofs.YtclihihdgodloaaDoor
namespace SC
open Go.Proofs
attribute [local irreducible] WC WL WX WS WO OX Does DoesU Enters CV Pure thenQ blockQ retQ Wants retQC
set_option maxRecDepth 100000
end SC
end Go.Proofs.YtclihihdgodloaaDoor
end
section
/- shape: Copy. -/
set_option linter.unusedVariables false
set_option linter.unusedSimpArgs false
namespace Go.Proofs.YtclihihdgodloaaDoor
namespace SC
open Go.Proofs
attribute [local irreducible] WC WL WX WS WO OX Does DoesU Enters CV Pure thenQ blockQ retQ Wants retQC
set_option maxRecDepth 100000
end SC
end Go.Proofs.YtclihihdgodloaaDoor
end
section
/- shape: Renumber's closures. -/
set_option linter.unusedVariables false
set_option linter.unusedSimpArgs false
namespace Go.Proofs.YtclihihdgodloaaDoor
namespace SC
open Go.Proofs
attribute [local irreducible] WC WL WX WS WO OX Does DoesU Enters CV Pure thenQ blockQ retQ Wants retQC
set_option maxRecDepth 100000
/-- A literal by a map of variables. -/
def litM (to : List Int) (l : Int) : Int := L to (l / 2) + l % 2
end SC
end Go.Proofs.YtclihihdgodloaaDoor
end
section
/- shape: Renumber, the plain words. -/
set_option linter.unusedVariables false
set_option linter.unusedSimpArgs false
namespace Go.Proofs.YtclihihdgodloaaDoor
namespace SC
open Go.Proofs
def giveM : List Int → Int → List Int → List Int
  | [], _, to => to
  | l :: r, nx, to => giveM r (nx + 2) (to.set (l / 2).toNat (nx + 2))
/-- The map behind these definitions. -/
def mapOf (max : Int) (ks : List Int) : List Int := giveM ks 0 (List.replicate (max + 1).toNat 0)
/-- The gates' definitions in an order. -/
def andAt (c : Circ) (i : Int) : Tri := c.ands.getD i.toNat (0, 0, 0)
def defsOf (c : Circ) (ord : List Int) : List Int := c.inputs ++ c.latches.map (·.1) ++ ord.map fun i => (andAt c i).1
def renLatch (to : List Int) (x : Tri) : Tri := (litM to x.1, litM to x.2.1, if 1 < x.2.2 then litM to x.2.2 else x.2.2)
def renAnd (to : List Int) (x : Tri) : Tri := (litM to x.1, max (litM to x.2.1) (litM to x.2.2), min (litM to x.2.1) (litM to x.2.2))
/-- The circuit in another order. -/
def renM (c : Circ) (ord : List Int) : Circ :=
  let to := mapOf c.max (defsOf c ord)
  { c with
    max := (defsOf c ord).length
    inputs := c.inputs.map (litM to)
    outputs := c.outputs.map (litM to)
    bads := c.bads.map (litM to)
    constraints := c.constraints.map (litM to)
    fairness := c.fairness.map (litM to)
    justice := c.justice.map fun l => l.map (litM to)
    latches := c.latches.map (renLatch to)
    ands := ord.map fun i => renAnd to (andAt c i) }
/-- A row's block. -/
theorem Rows.block {w : World} {base : Nat} {F : Nat → Rw} (h : Rows w base F) (i : Nat) {n : Nat} {a : Option Addr} {c : Nat} (hv : (F i).v = .slice a n c) (hn : (F i).n = n) (h0 : 0 < n) : ∃ g, a = some ⟨g, 0, none⟩ ∧ (F i).v.ownBlock = some g := by
  have := h.own i
  rcases this.2 with ⟨hv', hn'⟩ | ⟨g, cap, cur, hv', _⟩
  · omega
  · rw [hv] at hv'
    cases hv'
    exact ⟨g, rfl, by rw [hv]; rfl⟩
end SC
end Go.Proofs.YtclihihdgodloaaDoor
end
section
/- shape: Renumber, the walk. -/
set_option linter.unusedVariables false
set_option linter.unusedSimpArgs false
namespace Go.Proofs.YtclihihdgodloaaDoor
namespace SC
open Go.Proofs
section
variable {P : Program} {n : Nat} {all : List Oper} {K : Env → World → Prop} {S : World → Prop} {r : List (Nat × Bool)} {i : Nat} {e : Env} {w : World} {d : Option Tmp} {ty : TypeId} {x : Operand}
end
attribute [local irreducible] WC WL WX WS WO OX Does DoesU Enters CV Pure thenQ blockQ retQ Wants retQC
set_option maxRecDepth 100000
section
variable {w W W' : World} {c : Circ} {h : Hd} {u : Value} {ord : List Int} {tr : Nat} {ks : List Int}
end
section
variable {w W W' : World} {c : Circ} {h : Hd} {u : Value} {ord to : List Int} {tr lb ob : Nat} {cs : List Value} {F : Nat → Rw}
end
end SC
end Go.Proofs.YtclihihdgodloaaDoor
end
section
/- shape: works. -/
set_option linter.unusedVariables false
set_option linter.unusedSimpArgs false
namespace Go.Proofs.YtclihihdgodloaaDoor
namespace SC
open Go.Proofs
attribute [local irreducible] WC WL WX WS WO OX Does DoesU Enters CV Pure thenQ blockQ retQ Wants retQC
set_option maxRecDepth 100000
theorem RowA.emp {α : Type} {w : World} {enc : α → List Value} {sz : Nat} {A : Option Addr} : RowA w enc sz A ([] : List α) := fun k hk => absurd hk (Nat.not_lt_zero _)
theorem RowA.blk {α : Type} {w : World} {enc : α → List Value} {sz b : Nat} {t : TypeId} {l : List α} (hsz : ∀ a, (enc a).length = sz) (h : Blk w b t (l.flatMap enc)) : RowA w enc sz (some ⟨b, 0, none⟩) l := fun k hk => by
  refine ⟨_, rfl, fun j u hj => ?_⟩
  have hjl : j < sz := by have := (List.getElem?_eq_some_iff.1 hj).1; rwa [hsz] at this
  rw [add_at, add_at, Nat.zero_add, h.cell, Int.toNat_natCast, flatMap_get enc sz hsz l k hk j hjl]
  exact hj
def hNil : Hd := fun _ => (none, 0)
end SC
end Go.Proofs.YtclihihdgodloaaDoor
end
section
/- shape's laws: gates of each variable; ShapeOrders' walk. -/
set_option linter.unusedVariables false
set_option linter.unusedSimpArgs false
namespace Go.Proofs.YtclihihdgodloaaDoor
namespace SC
open Go.Proofs
def gatesL : List Tri → Nat → List Int → List Int
  | [], _, l => l
  | x :: r, i, l => gatesL r (i + 1) (l.set (x.1 / 2).toNat i)
theorem gatesL_not : ∀ (ls : List Tri) (k : Nat) (l : List Int) (v : Int), 0 ≤ v → (∀ x ∈ ls, rg l.length (x.1 / 2) ∧ x.1 / 2 ≠ v) → L (gatesL ls k l) v = L l v
  | [], _, _, _, _, _ => rfl
  | x :: r, k, l, v, hv, h => by
    obtain ⟨h1, h2⟩ := h x (by simp)
    unfold gatesL
    rw [gatesL_not r (k + 1) _ v hv fun y hy => by rw [List.length_set]; exact h y (by simp [hy]), L_set _ h1 hv, if_neg (fun e => h2 e.symm)]
theorem gatesL_at : ∀ (ls : List Tri) (k : Nat) (l : List Int) (j : Nat) (hj : j < ls.length), (∀ x ∈ ls, rg l.length (x.1 / 2)) → (∀ i (hi : i < ls.length), ls[i].1 / 2 = ls[j].1 / 2 → i = j) → L (gatesL ls k l) (ls[j].1 / 2) = k + j
  | [], _, _, j, hj, _, _ => absurd hj (Nat.not_lt_zero _)
  | x :: r, k, l, 0, hj, h, hu => by
    have h1 := h x (by simp)
    unfold gatesL
    simp only [List.getElem_cons_zero]
    rw [gatesL_not r (k + 1) _ _ h1.1 fun y hy => ⟨by rw [List.length_set]; exact h y (by simp [hy]), fun e => ?_⟩, L_set _ h1 h1.1, if_pos rfl]
    · simp
    · obtain ⟨i, hi, rfl⟩ := List.mem_iff_getElem.1 hy
      have := hu (i + 1) (by simp; omega) (by simpa using e)
      omega
  | x :: r, k, l, j + 1, hj, h, hu => by
    unfold gatesL
    simp only [List.getElem_cons_succ]
    rw [gatesL_at r (k + 1) _ j (by simpa using hj) (fun y hy => by rw [List.length_set]; exact h y (by simp [hy])) fun i hi e => by
      have := hu (i + 1) (by simp; omega) (by simpa using e)
      omega]
    simp; omega
/-- Of each variable the gate that defines it, or -1. -/
def gatesM (c : Circ) : List Int := gatesL c.ands 0 (List.replicate (c.max + 1).toNat (-1))
theorem TabOk.gatesM {c : Circ} {t : Tab} (h : TabOk c t) {v : Int} (hv : rg (c.max + 1).toNat v) : L (SC.gatesM c) v = if kindAt t v = 3 then atOf t v else -1 := by
  have hrg : ∀ x ∈ c.ands, rg (List.replicate (c.max + 1).toNat (-1 : Int)).length (x.1 / 2) := fun x hx => by
    obtain ⟨j, hj, rfl⟩ := List.mem_iff_getElem.1 hx
    have := (h.gat j hj).1
    rw [List.length_replicate]
    unfold defBad at this; unfold rg; omega
  have e : v = ((v.toNat : Nat) : Int) := by unfold rg at hv; omega
  by_cases hk : kindAt t v = 3
  · rw [if_pos hk]
    rw [e] at hk
    obtain ⟨j, hj, h1, h2, h3⟩ := h.gate hk
    rw [← e] at h1 h2
    have e2 : c.ands[j].1 / 2 = v := by omega
    have := gatesL_at c.ands 0 (List.replicate (c.max + 1).toNat (-1)) j hj hrg fun i hi e3 => by
      have g1 := (h.gat i hi).2
      have g2 := (h.gat j hj).2
      rw [e3, g2] at g1
      simp at g1
      omega
    rw [e2] at this
    unfold SC.gatesM
    rw [this, h2]
    simp
  · rw [if_neg hk]
    unfold SC.gatesM
    rw [gatesL_not c.ands 0 _ v hv.1 fun x hx => ⟨hrg x hx, fun e2 => hk ?_⟩]
    · unfold L
      unfold rg at hv
      simp only [List.getD_eq_getElem?_getD, List.getElem?_replicate]
      rw [if_pos (by omega)]
      rfl
    · obtain ⟨j, hj, rfl⟩ := List.mem_iff_getElem.1 hx
      have := (h.gat j hj).2
      rw [e2] at this
      rw [kindAt_get this]
theorem mem_gateB {c : Circ} {t : Tab} {i : Int} {z : Int} (hi : rg c.ands.length i) : z ∈ gateB t c i ↔ ∃ l, (l = (andAt c i).2.1 ∨ l = (andAt c i).2.2) ∧ kindAt t (l / 2) = 3 ∧ atOf t (l / 2) = z := by
  unfold gateB belowM
  rw [mem_belowL]
  unfold andAt
  simp
attribute [local irreducible] WC WL WX WS WO OX Does DoesU Enters CV Pure thenQ blockQ retQ Wants retQC
set_option maxRecDepth 100000
end SC
end Go.Proofs.YtclihihdgodloaaDoor
end
section
/- trestleref03: Defined. -/
set_option linter.unusedVariables false
set_option linter.unusedSimpArgs false
namespace Go.Proofs.YtclihihdgodloaaDoor
namespace SC
open Go.Proofs
attribute [local irreducible] WC WL WX WS WO OX Does DoesU Enters CV Pure thenQ blockQ retQ Wants retQC
set_option maxRecDepth 100000
end SC
end Go.Proofs.YtclihihdgodloaaDoor
end
section
/- trestleref03: uses. -/
set_option linter.unusedVariables false
set_option linter.unusedSimpArgs false
namespace Go.Proofs.YtclihihdgodloaaDoor
namespace SC
open Go.Proofs
section
variable {P : Program} {ty t t0 : TypeId} {e : Env} {w : World} {x y : Operand} {d0 : TypeDesc} {sz by_ sz1 by1 : Nat} {z z1 : Value} {ag ag1 : Bool} {m b o : Nat} {i : Int} {k : IntKind}
theorem does_indexA [U : Ty P t (.array m t0) sz1 z1 by1 ag1] [T : Ty P t0 d0 sz z by_ ag] (h : ev e x = some (.pointer (some ⟨b, o, none⟩))) (h1 : ev e y = some (.int k i)) (h0 : 0 ≤ i) (h2 : i < m) : Does P (.indexAddr t x y) ty e w (.pointer (some ⟨b, o + i.toNat * sz, none⟩)) w := by
  intro ρ dst pos af g hρ
  simp [execOp, hρ _ _ h, hρ _ _ h1, Instr.indexAt, Instr.sureAddr, asIntOf, run_underlying U.und, h0, h2, T.size, add_at]
end
attribute [local irreducible] WC WL WX WS WO OX Does DoesU Enters CV Pure thenQ blockQ retQ Wants retQC
set_option maxRecDepth 100000
end SC
end Go.Proofs.YtclihihdgodloaaDoor
end
section
/- trestleref03: gates. -/
set_option linter.unusedVariables false
set_option linter.unusedSimpArgs false
namespace Go.Proofs.YtclihihdgodloaaDoor
namespace SC
open Go.Proofs
/-- What a gate asks for: a literal's gate, or none. -/
theorem TabOk.lit {c : Circ} {t : Tab} (hT : TabOk c t) (hU : UseAll c t) {i : Int} (hi : rg c.ands.length i) {l : Int} (hl : l = (andAt c i).2.1 ∨ l = (andAt c i).2.2) :
    0 ≤ l ∧ l ≤ 2 * c.max + 1 ∧ ((kindAt t (l / 2) = 3 ∧ L (SC.gatesM c) (l / 2) = atOf t (l / 2) ∧ rg c.ands.length (atOf t (l / 2)) ∧ atOf t (l / 2) ∈ gateB t c i) ∨ (kindAt t (l / 2) ≠ 3 ∧ L (SC.gatesM c) (l / 2) = -1)) := by
  have hlt : i.toNat < c.ands.length := by unfold rg at hi; omega
  have e : andAt c i = c.ands[i.toNat] := by unfold andAt; simp [hlt]
  have hu := hU.ands _ (List.getElem_mem hlt)
  rw [← e] at hu
  have h0 : 0 ≤ l ∧ l ≤ 2 * c.max + 1 := by
    rcases hl with rfl | rfl
    · exact ⟨hu.1.1, hu.1.2.1⟩
    · exact ⟨hu.2.1, hu.2.2.1⟩
  refine ⟨h0.1, h0.2, ?_⟩
  have hr : rg (c.max + 1).toNat (l / 2) := by unfold rg; omega
  have hg := hT.gatesM hr
  by_cases hk : kindAt t (l / 2) = 3
  · rw [if_pos hk] at hg
    have hm : atOf t (l / 2) ∈ gateB t c i := (mem_gateB hi).2 ⟨l, hl, hk, rfl⟩
    exact .inl ⟨hk, hg, hT.below hU i hi _ hm, hm⟩
  · rw [if_neg hk] at hg
    exact .inr ⟨hk, hg⟩
attribute [local irreducible] WC WL WX WS WO OX Does DoesU Enters CV Pure thenQ blockQ retQ Wants retQC
set_option maxRecDepth 100000
end SC
end Go.Proofs.YtclihihdgodloaaDoor
end
section
/- trestleref03: told. -/
set_option linter.unusedVariables false
set_option linter.unusedSimpArgs false
namespace Go.Proofs.YtclihihdgodloaaDoor
namespace SC
open Go.Proofs
section
variable {P : Program} {n : Nat} {all rest : List Oper} {K : Env → World → Prop} {e : Env} {w : World}
end
attribute [local irreducible] WC WL WX WS WO OX Does DoesU Enters CV Pure thenQ blockQ retQ Wants retQC
set_option maxRecDepth 100000
end SC
end Go.Proofs.YtclihihdgodloaaDoor
end
section
/- trestleref03: round. -/
set_option linter.unusedVariables false
set_option linter.unusedSimpArgs false
namespace Go.Proofs.YtclihihdgodloaaDoor
namespace SC
open Go.Proofs
section
variable {P : Program} {n : Nat} {all : List Oper} {S : World → Prop} {K : Env → World → Prop} {i : Nat} {r : List (Nat × Bool)} {d : Option Tmp} {ty t : TypeId} {e : Env} {w : World} {td : TypeDesc} {sz by_ : Nat} {zv : Value} {ag : Bool}
end
attribute [local irreducible] WC WL WX WS WO OX Does DoesU Enters CV Pure thenQ blockQ retQ Wants retQC
set_option maxRecDepth 100000
end SC
end Go.Proofs.YtclihihdgodloaaDoor
end
section
/- trestleref03: symbols. -/
set_option linter.unusedVariables false
set_option linter.unusedSimpArgs false
namespace Go.Proofs.YtclihihdgodloaaDoor
namespace SC
open Go.Proofs
section
variable {P : Program} {n : Nat} {x y r b : Code} {Q : Post} {e : Env} {w : World}
end
attribute [local irreducible] WC WL WX WS WO OX Does DoesU Enters CV Pure thenQ blockQ retQ Wants retQC
set_option maxRecDepth 100000
end SC
end Go.Proofs.YtclihihdgodloaaDoor
end
section
/- trestleref03: Check. -/
set_option linter.unusedVariables false
set_option linter.unusedSimpArgs false
namespace Go.Proofs.YtclihihdgodloaaDoor
namespace SC
open Go.Proofs
attribute [local irreducible] WC WL WX WS WO OX Does DoesU Enters CV Pure thenQ blockQ retQ Wants retQC
set_option maxRecDepth 100000
end SC
end Go.Proofs.YtclihihdgodloaaDoor
end
section
/- The order of a right circuit; trestleref07: Next0, Starts0, Values0. -/
set_option linter.unusedVariables false
set_option linter.unusedSimpArgs false
namespace Go.Proofs.YtclihihdgodloaaDoor
namespace SC
open Go.Proofs
theorem ownsRow_low {w : World} {base : Nat} {t : TypeId} {sz n : Nat} {v : Value} {xs : List Value} (h : w.ownsRow base t sz v n xs) : w.ownsRow 0 t sz v n xs := ⟨h.1, h.2.imp id fun ⟨g, cap, cur, h1, _, h2⟩ => ⟨g, cap, cur, h1, Nat.zero_le _, h2⟩⟩
/-- A new row of its own, as an entry. -/
theorem own_vec {α : Type} {enc : α → List Value} {sz : Nat} {w w' : World} {t : TypeId} {u : Value} {l : List α} (h : w'.ownsRow w.heap.size t sz u l.length (l.flatMap enc)) (hc : Chg w w' none_) : ∃ A k, u = .slice A l.length k ∧ Mem w' ([.vec enc sz t A k l] ++ [.old w none_]) := by
  obtain ⟨A, k, rfl⟩ := row_form' h
  refine ⟨A, k, rfl, Mem.join (.one (ownsRow_low h)) (.one hc) fun j ⟨E, hE, h1⟩ ⟨F, hF, h2⟩ => ?_⟩
  simp only [List.mem_singleton] at hE hF
  subst hE hF
  have := (World.ownsRow.lt h j h1).1
  have := h2.1
  omega
/-- The order of its gates. -/
noncomputable def ordM (c : Circ) : List Int := by classical exact if h : ∃ out, All c.ands.length (gateB (tabM c) c) out then h.choose else []
theorem ordM_eq {c : Circ} {out : List Int} (h : All c.ands.length (gateB (tabM c) c) out) : ordM c = out := by
  have hex : ∃ out, All c.ands.length (gateB (tabM c) c) out := ⟨out, h⟩
  unfold ordM
  rw [dif_pos hex]
  exact All.only hex.choose_spec h
/-- What Order answers. -/
def OrdR (c : Circ) (v : Value) (N : Mm) : Prop :=
  ((lookM c).2 ≠ 0 ∧ v = .tuple #[.slice none 0 0, nu (lookM c).2] ∧ N = []) ∨ ((lookM c).2 = 0 ∧ ∃ A k, v = .tuple #[.slice A (ordM c).length k, nu 0] ∧ N = [.vec icell 1 3 A k (ordM c)])
theorem OrderG {w : World} {c : Circ} {h js : Hd} (H : CirAt w c h js) (hs : c.Sane) : CVN Tryd.prog 75 [.agg (ccells c h).toArray] w (OrdR c) := CV.mono (Order_cv H hs) fun v w' ⟨hc, hv⟩ => by
  rcases hv with ⟨h1, rfl⟩ | ⟨h1, out, u, rfl, h2, h3, h4⟩
  · exact ⟨[], .one hc, .inl ⟨h1, rfl, rfl⟩⟩
  · rw [← flat_icell] at h4
    obtain ⟨A, k, rfl, M⟩ := own_vec h4 hc
    rw [← ordM_eq h2] at M ⊢
    exact ⟨_, M, .inr ⟨h1, A, k, rfl, rfl⟩⟩
/-! ### a row that is filled from the left -/
def fillL {α β : Type} (f : α → β) (l : List α) (z : β) (i : Nat) : List β := (l.take i).map f ++ List.replicate (l.length - i) z
theorem fillL_len {α β : Type} {f : α → β} {l : List α} {z : β} {i : Nat} (h : i ≤ l.length) : (fillL f l z i).length = l.length := by unfold fillL; simp; omega
theorem fillL_0 {α β : Type} {f : α → β} {l : List α} {z : β} : fillL f l z 0 = List.replicate l.length z := by unfold fillL; simp
theorem fillL_all {α β : Type} {f : α → β} {l : List α} {z : β} {i : Nat} (h : l.length ≤ i) : fillL f l z i = l.map f := by unfold fillL; rw [List.take_of_length_le h, show l.length - i = 0 by omega]; simp
theorem fillL_set {α β : Type} [Inhabited α] {f : α → β} {l : List α} {z : β} {i : Nat} (h : i < l.length) : (fillL f l z i).set (i : Int).toNat (f (gt l (i : Int))) = fillL f l z (i + 1) := by
  unfold fillL
  rw [gt_nat h, Int.toNat_natCast, List.set_append_right _ _ (by simp; omega)]
  have e1 : i - ((l.take i).map f).length = 0 := by simp; omega
  have e2 : l.length - i = (l.length - (i + 1)) + 1 := by omega
  rw [e1, e2, List.replicate_succ, List.set_cons_zero, List.take_succ_eq_append_getElem h, List.map_append]
  simp
/-- Next, by the values. -/
def nxtM (c : Circ) (v : List Bool) : List Bool := c.latches.map fun x => lv v x.2.1
attribute [local irreducible] WC WL WX WS WO OX Does DoesU Enters CV Pure thenQ blockQ retQ Wants retQC GC GL GS GX RdB thenG blockG retG Rd At gt CVN CVM
set_option maxRecDepth 100000
end SC
end Go.Proofs.YtclihihdgodloaaDoor
end
section
/- A right circuit; its values. trestleref07: Starts0, Values0. -/
set_option linter.unusedVariables false
set_option linter.unusedSimpArgs false
namespace Go.Proofs.YtclihihdgodloaaDoor
namespace SC
open Go.Proofs
theorem CV.ex {P : Program} {f : FuncId} {args : List Value} {w : World} {R : Value → World → Prop} (h : CV P f args w R) : ∃ v w', R v w' := by
  obtain ⟨e, w', fr, h1, _⟩ := h []
  cases e with
  | returned v => exact ⟨v, w', h1⟩
  | panicked c => exact h1.elim
  | outgrown => exact h1.elim
/-- What is so of a right circuit. -/
structure Right (c : Circ) : Prop where
  tab : TabOk c (tabM c)
  use : UseAll c (tabM c)
  m0 : 0 ≤ c.max
  m1 : c.max ≤ 16384
  lens : ∀ n ∈ c.lens, n ≤ 16384
  sum : sumW c.justice ≤ 16384
  all : All c.ands.length (gateB (tabM c) c) (ordM c)
  ordLen : (ordM c).length = c.ands.length
theorem right_of {w : World} {c : Circ} {h js : Hd} (H : CirAt w c h js) (hs : c.Sane) (he : (lookM c).2 = 0) : Right c := by
  obtain ⟨v, w', _, hv⟩ := CV.ex (Order_cv H hs)
  rcases hv with ⟨h1, _⟩ | ⟨_, out, u, _, h2, h3, _⟩
  · exact absurd he h1
  · obtain ⟨_, g1, g2, g3, _⟩ := lookM_ok he
    obtain ⟨k1, k2, k3, k4⟩ := sizesM_ok g1
    have e1 := ordM_eq h2
    exact ⟨definesM_spec k1 g2, usesM_spec.1 g3, k1, k2, k3, k4, by rw [e1]; exact h2, by rw [e1]; exact h3⟩
def inR (c : Circ) (l : Int) : Prop := 0 ≤ l ∧ l ≤ 2 * c.max + 1
def defR (c : Circ) (l : Int) : Prop := 2 ≤ l ∧ l ≤ 2 * c.max ∧ l % 2 = 0
section
variable {c : Circ} (R : Right c)
include R
theorem Right.nIn : c.inputs.length ≤ 16384 := by have := R.lens c.inputs.length (by simp [Circ.lens]); omega
theorem Right.nLat : c.latches.length ≤ 16384 := by have := R.lens c.latches.length (by simp [Circ.lens]); omega
theorem Right.nAnd : c.ands.length ≤ 16384 := by have := R.lens c.ands.length (by simp [Circ.lens]); omega
theorem Right.inp {l : Int} (h : l ∈ c.inputs) : defR c l := by
  obtain ⟨j, hj, rfl⟩ := List.mem_iff_getElem.1 h
  have := (R.tab.inp j hj).1
  unfold defBad at this; unfold defR; omega
theorem Right.lat {x : Tri} (h : x ∈ c.latches) : defR c x.1 ∧ inR c x.2.1 ∧ (x.2.2 = 0 ∨ x.2.2 = 1 ∨ x.2.2 = x.1) := by
  obtain ⟨j, hj, rfl⟩ := List.mem_iff_getElem.1 h
  have h1 := (R.tab.lat j hj).1
  have h2 := (R.tab.lat j hj).2.2
  have h3 := R.use.next _ (List.getElem_mem hj)
  unfold defBad at h1; unfold badReset at h2; unfold useOk at h3; unfold defR inR
  omega
theorem Right.gate {x : Tri} (h : x ∈ c.ands) : defR c x.1 ∧ inR c x.2.1 ∧ inR c x.2.2 := by
  obtain ⟨j, hj, rfl⟩ := List.mem_iff_getElem.1 h
  have h1 := (R.tab.gat j hj).1
  have h3 := R.use.ands _ (List.getElem_mem hj)
  unfold defBad at h1; unfold useOk at h3; unfold defR inR
  omega
theorem Right.con {l : Int} (h : l ∈ c.constraints) : inR c l := ⟨(R.use.constraints l h).1, (R.use.constraints l h).2.1⟩
theorem Right.just {ls : List Int} {l : Int} (h : ls ∈ c.justice) (h2 : l ∈ ls) : inR c l := ⟨(R.use.justice ls h l h2).1, (R.use.justice ls h l h2).2.1⟩
theorem Right.ord {i : Int} (h : i ∈ ordM c) : 0 ≤ i ∧ i < c.ands.length := R.all.told.all i h
end
theorem inR.has {c : Circ} {l : Int} {v : List Bool} (h : inR c l) (hm : c.max ≤ 16384) (hv : v.length = (c.max + 1).toNat) : hasL v l := by unfold inR at h; unfold hasL; omega
theorem defR.in {c : Circ} {l : Int} (h : defR c l) : inR c l := by unfold defR at h; unfold inR; omega
/-! ### the values -/
def vIn (c : Circ) (r : List Bool) (i : Nat) : List Bool := (List.range i).foldl (fun v (k : Nat) => v.set (gt c.inputs (k : Int) / 2).toNat (gt r (k : Int))) (List.replicate (c.max + 1).toNat false)
def vLt (c : Circ) (s v : List Bool) (i : Nat) : List Bool := (List.range i).foldl (fun v (k : Nat) => v.set ((gt c.latches (k : Int)).1 / 2).toNat (gt s (k : Int))) v
def vAn (c : Circ) (ord : List Int) (v : List Bool) (i : Nat) : List Bool := (List.range i).foldl (fun v (k : Nat) => v.set ((gt c.ands (gt ord (k : Int))).1 / 2).toNat (lv v (gt c.ands (gt ord (k : Int))).2.1 && lv v (gt c.ands (gt ord (k : Int))).2.2)) v
noncomputable def valM (c : Circ) (s r : List Bool) : List Bool := vAn c (ordM c) (vLt c s (vIn c r c.inputs.length) c.latches.length) (ordM c).length
theorem fold_snoc {α : Type} (f : α → Nat → α) (a : α) (i : Nat) : (List.range (i + 1)).foldl f a = f ((List.range i).foldl f a) i := by rw [List.range_succ, List.foldl_append]; rfl
theorem fold_len (g : List Bool → Nat → Nat) (h : List Bool → Nat → Bool) (v : List Bool) (i : Nat) : ((List.range i).foldl (fun v k => v.set (g v k) (h v k)) v).length = v.length := by
  induction i with
  | zero => simp
  | succ i ih => rw [fold_snoc, List.length_set, ih]
theorem vIn_len (c : Circ) (r : List Bool) (i : Nat) : (vIn c r i).length = (c.max + 1).toNat := by unfold vIn; rw [fold_len]; simp
theorem vLt_len (c : Circ) (s v : List Bool) (i : Nat) : (vLt c s v i).length = v.length := by unfold vLt; rw [fold_len]
theorem vAn_len (c : Circ) (ord : List Int) (v : List Bool) (i : Nat) : (vAn c ord v i).length = v.length := by unfold vAn; rw [fold_len]
theorem valM_len (c : Circ) (s r : List Bool) : (valM c s r).length = (c.max + 1).toNat := by unfold valM; rw [vAn_len, vLt_len, vIn_len]
attribute [local irreducible] WC WL WX WS WO OX Does DoesU Enters CV Pure thenQ blockQ retQ Wants retQC GC GL GS GX RdB thenG blockG retG Rd At gt CVN CVM
set_option maxRecDepth 100000
end SC
end Go.Proofs.YtclihihdgodloaaDoor
end
section
/- trestleref07: Values0. -/
set_option linter.unusedVariables false
set_option linter.unusedSimpArgs false
namespace Go.Proofs.YtclihihdgodloaaDoor
namespace SC
open Go.Proofs
theorem vIn_succ (c : Circ) (r : List Bool) (i : Nat) : vIn c r (i + 1) = (vIn c r i).set (gt c.inputs (i : Int) / 2).toNat (gt r (i : Int)) := by unfold vIn; rw [fold_snoc]
theorem vLt_succ (c : Circ) (s v : List Bool) (i : Nat) : vLt c s v (i + 1) = (vLt c s v i).set ((gt c.latches (i : Int)).1 / 2).toNat (gt s (i : Int)) := by unfold vLt; rw [fold_snoc]
theorem vAn_succ (c : Circ) (o : List Int) (v : List Bool) (i : Nat) : vAn c o v (i + 1) = (vAn c o v i).set ((gt c.ands (gt o (i : Int))).1 / 2).toNat (lv (vAn c o v i) (gt c.ands (gt o (i : Int))).2.1 && lv (vAn c o v i) (gt c.ands (gt o (i : Int))).2.2) := by unfold vAn; rw [fold_snoc]
attribute [local irreducible] WC WL WX WS WO OX Does DoesU Enters CV Pure thenQ blockQ retQ Wants retQC GC GL GS GX RdB thenG blockG retG Rd At gt CVN CVM
set_option maxRecDepth 100000
end SC
end Go.Proofs.YtclihihdgodloaaDoor
end
section
/- trestleref07: looked, Values, Next, Holds, Starts. -/
set_option linter.unusedVariables false
set_option linter.unusedSimpArgs false
namespace Go.Proofs.YtclihihdgodloaaDoor
namespace SC
open Go.Proofs
/-- A circuit that can be read, and what is so of any. -/
structure CirIn (w : World) (c : Circ) (h js : Hd) : Prop where
  at_ : CirAt w c h js
  sane : c.Sane
  okay : c.Okay
  fits : c.Fits
theorem CirIn.chg {w w' : World} {c : Circ} {h js : Hd} (H : CirIn w c h js) (hc : Chg w w' none_) : CirIn w' c h js := ⟨H.at_.chg hc, H.sane, H.okay, H.fits⟩
theorem In.old {Γ : Mm} {w w0 : World} (h : In Γ (.old w0 none_)) (M : Mem w Γ) : Chg w0 w none_ := h.ok M
/-- What is wrong with a step. -/
noncomputable def stepE (c : Circ) (s r : List Bool) : Int := if (lookM c).2 ≠ 0 then (lookM c).2 else if s.length ≠ c.latches.length ∨ r.length ≠ c.inputs.length then 4 else 0
theorem stepE_look {c : Circ} {s r : List Bool} (h : (lookM c).2 ≠ 0) : stepE c s r = (lookM c).2 := if_pos h
theorem stepE_len {c : Circ} {s r : List Bool} (h : (lookM c).2 = 0) (h2 : s.length ≠ c.latches.length ∨ r.length ≠ c.inputs.length) : stepE c s r = 4 := by unfold stepE; rw [if_neg (by omega), if_pos h2]
theorem stepE_ok {c : Circ} {s r : List Bool} (h : (lookM c).2 = 0) (h2 : s.length = c.latches.length) (h3 : r.length = c.inputs.length) : stepE c s r = 0 := by unfold stepE; rw [if_neg (by omega), if_neg (by omega)]
theorem stepE_zero {c : Circ} {s r : List Bool} (h : stepE c s r = 0) : (lookM c).2 = 0 ∧ s.length = c.latches.length ∧ r.length = c.inputs.length := by
  unfold stepE at h
  split at h
  · exact absurd h (by assumption)
  · split at h
    · cases h
    · omega
noncomputable def valsM (c : Circ) (s r : List Bool) : List Bool := if stepE c s r = 0 then valM c s r else []
noncomputable def nextM (c : Circ) (s r : List Bool) : List Bool := if stepE c s r = 0 then nxtM c (valM c s r) else []
def ValsR (c : Circ) (s r : List Bool) (v : Value) (N : Mm) : Prop := ∃ A k, v = .tuple #[.slice A (valsM c s r).length k, nu (stepE c s r)] ∧ N = [.vec booc 1 4 A k (valsM c s r)]
def NextR (c : Circ) (s r : List Bool) (v : Value) (N : Mm) : Prop := ∃ A k, v = .tuple #[.slice A (nextM c s r).length k, nu (stepE c s r)] ∧ N = [.vec booc 1 4 A k (nextM c s r)]
attribute [local irreducible] WC WL WX WS WO OX Does DoesU Enters CV Pure thenQ blockQ retQ Wants retQC GC GL GS GX RdB thenG blockG retG Rd At gt CVN CVM
set_option maxRecDepth 100000
section
variable {w : World} {c : Circ} {h js : Hd} {S T : Option Addr} {k2 k3 : Nat} {s r : List Bool} (H : CirIn w c h js) (hS : RowA w booc 1 S s) (hT : RowA w booc 1 T r)
include H hS hT
end
end SC
end Go.Proofs.YtclihihdgodloaaDoor
end
section
/- sim: is, values, next, holds. -/
set_option linter.unusedVariables false
set_option linter.unusedSimpArgs false
namespace Go.Proofs.YtclihihdgodloaaDoor
namespace SC
open Go.Proofs
/-- The runner's cells. -/
noncomputable def rcells (c : Circ) (h : Hd) (B : Option Addr) (k : Nat) : List Value := ccells c h ++ [.slice B (ordM c).length k]
theorem In.box {Γ : Mm} {w : World} {b : Nat} {t : TypeId} {cs : List Value} (h : In Γ (.box b t cs)) (M : Mem w Γ) : Blk w b t cs := h.ok M
theorem In.row {Γ : Mm} {w : World} {α : Type} {enc : α → List Value} {sz : Nat} [H : Enc enc sz] {t : TypeId} {A : Option Addr} {c : Nat} {l : List α} (h : In Γ (.vec enc sz t A c l)) (M : Mem w Γ) : RowA w enc sz A l := (Rd.own h H).at M
instance : Fn Tryd.prog 89 := ⟨fun args w => Tryd.call89 args w⟩
instance : Fn Tryd.prog 92 := ⟨fun args w => Tryd.call92 args w⟩
instance : Fn Tryd.prog 105 := ⟨fun args w => Tryd.call105 args w⟩
attribute [local irreducible] WC WL WX WS WO OX Does DoesU Enters CV Pure thenQ blockQ retQ Wants retQC GC GL GS GX RdB thenG blockG retG Rd At gt CVN CVM
set_option maxRecDepth 100000
theorem is_cv {w : World} {A : Option Addr} {c k : Nat} {v : List Bool} {l : Int} (hA : RowA w booc 1 A v) (hk : k = v.length) (hl : hasL v l) : CVN Tryd.prog 88 [.slice A k c, nu l] w fun r N => N = [] ∧ r = .bool (lv v l) := by
  obtain ⟨h0, h1, h2⟩ := hl
  refine CVN.enter 14 [4] Tryd.func88 rfl rfl rfl (by decide) rfl ?_
  repeat' (first
|(apply GC_seqK;intro K hK)
|(apply hK;clear hK K)
|(apply GC_region)
|(apply GL_nil)
|(apply thenG_normal)
|(apply GC_ret)
|(apply retG1;eq_refl)
|(apply GL_on;eq_refl;eq_refl)
|(apply G_pv;eq_refl;first|exact trivial|omega)
|(apply G_rd;eq_refl;(first|(apply Rd.own;(repeat first|exact In.here|apply In.there|apply In.skip);infer_instance)|(apply Rd.old;(repeat first|exact In.here|apply In.there|apply In.skip);assumption)|(apply Rd.oldR;(repeat first|exact In.here|apply In.there|apply In.skip);assumption)|exact Rd.nil|assumption);(case ih => infer_instance);omega;omega;eq_refl)
|(apply G_cmpD;eq_refl;eq_refl;(case hd => infer_instance))
|(apply G_ix;eq_refl;eq_refl;(first|(apply Rd.own;(repeat first|exact In.here|apply In.there|apply In.skip);infer_instance)|(apply Rd.old;(repeat first|exact In.here|apply In.there|apply In.skip);assumption)|(apply Rd.oldR;(repeat first|exact In.here|apply In.there|apply In.skip);assumption)|exact Rd.nil|assumption);(first|eq_refl|omega);omega;omega)
|(apply G_neqB;eq_refl;eq_refl))
  exact ⟨[], (by repeat first | exact Wk.nil | exact Wk.refl | (apply Wk.cons; (focus ((repeat first | exact Rem.here | apply Rem.there | apply Rem.skip); done))) | apply Wk.nilv | apply Wk.last | apply Wk.drop), rfl, rfl⟩
theorem of_cv {w : World} {A : Option Addr} {b c k : Nat} {v : List Bool} {l : Int} (hB : Blk w b 53 [.slice A k c]) (hA : RowA w booc 1 A v) (hk : k = v.length) (hl : hasL v l) : CVN Tryd.prog 89 [nu l, pt b] w fun r N => N = [] ∧ r = .bool (lv v l) := by
  obtain ⟨h0, h1, h2⟩ := hl
  refine CVN.enter 13 [3] Tryd.func89 rfl rfl rfl (by decide) rfl ?_
  repeat' (first
|(apply GC_seqK;intro K hK)
|(apply hK;clear hK K)
|(apply GC_region)
|(apply GL_nil)
|(apply thenG_normal)
|(apply GC_ret)
|(apply retG1;eq_refl)
|(apply GL_on;eq_refl;eq_refl)
|(apply G_pv;eq_refl;first|exact trivial|omega)
|(apply G_ldO;eq_refl;(repeat first|exact In.here|apply In.there|apply In.skip);assumption;eq_refl)
|(apply G_rd;eq_refl;(first|(apply Rd.own;(repeat first|exact In.here|apply In.there|apply In.skip);infer_instance)|(apply Rd.old;(repeat first|exact In.here|apply In.there|apply In.skip);assumption)|(apply Rd.oldR;(repeat first|exact In.here|apply In.there|apply In.skip);assumption)|exact Rd.nil|assumption);(case ih => infer_instance);omega;omega;eq_refl)
|(apply G_cmpD;eq_refl;eq_refl;(case hd => infer_instance))
|(apply G_ix;eq_refl;eq_refl;(first|(apply Rd.own;(repeat first|exact In.here|apply In.there|apply In.skip);infer_instance)|(apply Rd.old;(repeat first|exact In.here|apply In.there|apply In.skip);assumption)|(apply Rd.oldR;(repeat first|exact In.here|apply In.there|apply In.skip);assumption)|exact Rd.nil|assumption);(first|eq_refl|omega);omega;omega)
|(apply G_neqB;eq_refl;eq_refl))
  exact ⟨[], (by repeat first | exact Wk.nil | exact Wk.refl | (apply Wk.cons; (focus ((repeat first | exact Rem.here | apply Rem.there | apply Rem.skip); done))) | apply Wk.nilv | apply Wk.last | apply Wk.drop), rfl, rfl⟩
theorem values_cv {w : World} {c : Circ} {h js : Hd} {p : Nat} {B S T : Option Addr} {k1 k2 k3 : Nat} {s r : List Bool} (R : Right c) (hP : Blk w p 123 (rcells c h B k1)) (H : CirAt w c h js) (hB : RowA w icell 1 B (ordM c)) (hS : RowA w booc 1 S s) (hT : RowA w booc 1 T r) (hs : s.length = c.latches.length) (hr : r.length = c.inputs.length) :
    CVN Tryd.prog 66 [pt p, .slice S s.length k2, .slice T r.length k3] w fun v N => ∃ A' k', v = .slice A' (valM c s r).length k' ∧ N = [.vec booc 1 4 A' k' (valM c s r)] := by
  have hLat := H.latches
  have hInp := H.inputs
  have hAnd := H.ands
  have m0 := R.m0
  have m1 := R.m1
  have n1 := R.nIn
  have n2 := R.nLat
  have n3 := R.nAnd
  have n4 := R.ordLen
  refine CVN.enter 107 [6] Tryd.func66 rfl rfl rfl (by decide) rfl ?_
  repeat' (first
|(apply GC_seqK;intro K hK)
|(apply hK;clear hK K)
|(apply GC_block)
|(apply GC_region)
|(apply GL_nil)
|(apply thenG_normal)
|(apply GL_on;eq_refl;eq_refl)
|(apply G_pv;eq_refl;first|exact trivial|omega)
|(apply G_field;eq_refl)
|(apply G_ldO;eq_refl;(repeat first|exact In.here|apply In.there|apply In.skip);assumption;eq_refl)
|(apply G_len;eq_refl)
|(apply G_alloc;eq_refl;intro _)
|(apply G_st;(first|exact wr_p|kernel_rfl);eq_refl;eq_refl;eq_refl;eq_refl;(repeat first|exact Upd.here|apply Upd.there|apply Upd.skip);(first|decide|exact Nat.le_of_ble_eq_true rfl))
|(apply G_makeI booc;eq_refl;eq_refl;omega;eq_refl;omega;decide;intro _))
  rename_i b1 b0
  refine GC_loopK [0, 1, 2, 7, 26] (fun s : Nat × List Bool => [(27, nu s.1)]) (fun s => [.box b0 53 [.slice (some ⟨b1, 0, none⟩) (c.max + 1).toNat (c.max + 1).toNat], .vec booc 1 4 (some ⟨b1, 0, none⟩) (c.max + 1).toNat s.2, .old w none_]) (fun s => s.1 ≤ c.inputs.length ∧ s.2 = vIn c r s.1) (fun s => c.inputs.length - s.1) (0, _) (by repeat first | exact Pick.nil | (apply Pick.cons; eq_refl)) (by repeat first | exact trivial | refine ⟨rfl, ?_⟩) (by repeat first | exact Wk.nil | exact Wk.refl | (apply Wk.cons; (focus ((repeat first | exact Rem.here | apply Rem.there | apply Rem.skip); done))) | apply Wk.nilv | apply Wk.last | apply Wk.drop) ⟨Nat.zero_le _, rfl⟩ ?_
  rintro ⟨i, v⟩ ⟨hi, hv⟩
  dsimp only at hi hv ⊢
  have hlen : v.length = (c.max + 1).toNat := by rw [hv, vIn_len]
  rcases Nat.lt_or_ge i c.inputs.length with hlt | hge
  · have hd := R.inp (gt_mem (l := c.inputs) (i := (i : Int)) (by omega) (by omega))
    have hst := vIn_succ c r i
    rw [← hv] at hst
    unfold defR at hd
    repeat' (first
|(apply GC_seqK;intro K hK)
|(apply hK;clear hK K)
|(apply GC_block)
|(apply GC_region)
|(apply GL_nil)
|(apply thenG_normal)
|(apply blockG_normal)
|(apply GC_skip)
|(apply GC_if_true;eq_refl)
|(apply GL_on;eq_refl;eq_refl)
|(refine GC_draws (id := 5) [.q 0, .q 1, .q 2, .q 3, .q 4, .q 5, .q 6, .q 7, .q 8, .q 9, .q 10, .q 11, .q 12, .q 13, .q 14, .c 15] mixed (by kernel_rfl) (by kernel_rfl) ?_)
|(apply GS_nil)
|(apply GS_qon;eq_refl;eq_refl;eq_refl;eq_refl)
|(apply GS_con;eq_refl;eq_refl;eq_refl;eq_refl)
|(apply G_pv;eq_refl;first|exact trivial|omega)
|(apply G_field;eq_refl)
|(apply G_ld;eq_refl;(repeat first|exact In.here|apply In.there|apply In.skip);eq_refl)
|(apply G_ldO;eq_refl;(repeat first|exact In.here|apply In.there|apply In.skip);assumption;eq_refl)
|(apply G_rd;eq_refl;(first|(apply Rd.own;(repeat first|exact In.here|apply In.there|apply In.skip);infer_instance)|(apply Rd.old;(repeat first|exact In.here|apply In.there|apply In.skip);assumption)|(apply Rd.oldR;(repeat first|exact In.here|apply In.there|apply In.skip);assumption)|exact Rd.nil|assumption);(case ih => infer_instance);omega;omega;eq_refl)
|(apply G_cmpT;eq_refl;eq_refl;omega)
|(apply G_ix;eq_refl;eq_refl;(first|(apply Rd.own;(repeat first|exact In.here|apply In.there|apply In.skip);infer_instance)|(apply Rd.old;(repeat first|exact In.here|apply In.there|apply In.skip);assumption)|(apply Rd.oldR;(repeat first|exact In.here|apply In.there|apply In.skip);assumption)|exact Rd.nil|assumption);(first|eq_refl|omega);omega;omega)
|(apply G_stV;(first|exact wr_p|kernel_rfl);eq_refl;eq_refl;eq_refl;eq_refl;(repeat first|exact Upd.here|apply Upd.there|apply Upd.skip);infer_instance;infer_instance;eq_refl;omega;(try simp only [List.length_set, List.length_append, List.length_replicate]);omega))
    exact ⟨(i + 1, _), (by repeat first | exact trivial | refine ⟨rfl, ?_⟩), (by repeat first | exact Wk.nil | exact Wk.refl | (apply Wk.cons; (focus ((repeat first | exact Rem.here | apply Rem.there | apply Rem.skip); done))) | apply Wk.nilv | apply Wk.last | apply Wk.drop), ⟨hlt, hst.symm⟩, by simp only; omega⟩
  · obtain rfl : i = c.inputs.length := by omega
    repeat' (first
|(apply GC_seqK;intro K hK)
|(apply hK;clear hK K)
|(clear hK K;apply hK;clear hK K)
|(apply GC_block)
|(apply GC_region)
|(apply GL_nil)
|(apply thenG_normal)
|(apply thenG_exit)
|(apply blockG_hit)
|(apply GC_exit)
|(apply GC_if_false;eq_refl)
|(apply GL_on;eq_refl;eq_refl)
|(apply G_pv;eq_refl;first|exact trivial|omega)
|(apply G_field;eq_refl)
|(apply G_ldO;eq_refl;(repeat first|exact In.here|apply In.there|apply In.skip);assumption;eq_refl)
|(apply G_cmpF;eq_refl;eq_refl;omega)
|(apply G_len;eq_refl))
    refine GC_loopK [0, 1, 2, 7, 51] (fun s : Nat × List Bool => [(52, nu s.1)]) (fun s => [.box b0 53 [.slice (some ⟨b1, 0, none⟩) (c.max + 1).toNat (c.max + 1).toNat], .vec booc 1 4 (some ⟨b1, 0, none⟩) (c.max + 1).toNat s.2, .old w none_]) (fun t => t.1 ≤ c.latches.length ∧ t.2 = vLt c s v t.1) (fun s => c.latches.length - s.1) (0, _) (by repeat first | exact Pick.nil | (apply Pick.cons; eq_refl)) (by repeat first | exact trivial | refine ⟨rfl, ?_⟩) (by repeat first | exact Wk.nil | exact Wk.refl | (apply Wk.cons; (focus ((repeat first | exact Rem.here | apply Rem.there | apply Rem.skip); done))) | apply Wk.nilv | apply Wk.last | apply Wk.drop) ⟨Nat.zero_le _, rfl⟩ ?_
    rintro ⟨i, v2⟩ ⟨hi2, hv2⟩
    dsimp only at hi2 hv2 ⊢
    have hlen2 : v2.length = (c.max + 1).toNat := by rw [hv2, vLt_len, hlen]
    rcases Nat.lt_or_ge i c.latches.length with hlt | hge
    · have hd := (R.lat (gt_mem (l := c.latches) (i := (i : Int)) (by omega) (by omega))).1
      have hst := vLt_succ c s v i
      rw [← hv2] at hst
      unfold defR at hd
      repeat' (first
|(apply GC_seqK;intro K hK)
|(apply hK;clear hK K)
|(apply GC_block)
|(apply GC_region)
|(apply GL_nil)
|(apply thenG_normal)
|(apply blockG_normal)
|(apply GC_skip)
|(apply GC_if_true;eq_refl)
|(apply GL_on;eq_refl;eq_refl)
|(refine GC_draws (id := 10) [.q 0, .q 1, .q 2, .q 3, .q 4, .q 5, .q 6, .q 7, .q 8, .q 9, .q 10, .q 11, .q 12, .q 13, .q 14, .q 15, .c 16] mixed (by kernel_rfl) (by kernel_rfl) ?_)
|(apply GS_nil)
|(apply GS_qon;eq_refl;eq_refl;eq_refl;eq_refl)
|(apply GS_con;eq_refl;eq_refl;eq_refl;eq_refl)
|(apply G_pv;eq_refl;first|exact trivial|omega)
|(apply G_field;eq_refl)
|(apply G_fieldP;eq_refl)
|(apply G_ld;eq_refl;(repeat first|exact In.here|apply In.there|apply In.skip);eq_refl)
|(apply G_ldO;eq_refl;(repeat first|exact In.here|apply In.there|apply In.skip);assumption;eq_refl)
|(apply G_rd;eq_refl;(first|(apply Rd.own;(repeat first|exact In.here|apply In.there|apply In.skip);infer_instance)|(apply Rd.old;(repeat first|exact In.here|apply In.there|apply In.skip);assumption)|(apply Rd.oldR;(repeat first|exact In.here|apply In.there|apply In.skip);assumption)|exact Rd.nil|assumption);(case ih => infer_instance);omega;omega;eq_refl)
|(apply G_cmpT;eq_refl;eq_refl;omega)
|(apply G_ix;eq_refl;eq_refl;(first|(apply Rd.own;(repeat first|exact In.here|apply In.there|apply In.skip);infer_instance)|(apply Rd.old;(repeat first|exact In.here|apply In.there|apply In.skip);assumption)|(apply Rd.oldR;(repeat first|exact In.here|apply In.there|apply In.skip);assumption)|exact Rd.nil|assumption);(first|eq_refl|omega);omega;omega)
|(apply G_stV;(first|exact wr_p|kernel_rfl);eq_refl;eq_refl;eq_refl;eq_refl;(repeat first|exact Upd.here|apply Upd.there|apply Upd.skip);infer_instance;infer_instance;eq_refl;omega;(try simp only [List.length_set, List.length_append, List.length_replicate]);omega))
      exact ⟨(i + 1, _), (by repeat first | exact trivial | refine ⟨rfl, ?_⟩), (by repeat first | exact Wk.nil | exact Wk.refl | (apply Wk.cons; (focus ((repeat first | exact Rem.here | apply Rem.there | apply Rem.skip); done))) | apply Wk.nilv | apply Wk.last | apply Wk.drop), ⟨hlt, hst.symm⟩, by simp only; omega⟩
    · obtain rfl : i = c.latches.length := by omega
      repeat' (first
|(apply GC_seqK;intro K hK)
|(apply hK;clear hK K)
|(clear hK K;apply hK;clear hK K)
|(apply GC_block)
|(apply GC_region)
|(apply GL_nil)
|(apply thenG_normal)
|(apply thenG_exit)
|(apply blockG_hit)
|(apply GC_exit)
|(apply GC_if_false;eq_refl)
|(apply GL_on;eq_refl;eq_refl)
|(apply G_pv;eq_refl;first|exact trivial|omega)
|(apply G_field;eq_refl)
|(apply G_ldO;eq_refl;(repeat first|exact In.here|apply In.there|apply In.skip);assumption;eq_refl)
|(apply G_cmpF;eq_refl;eq_refl;omega)
|(apply G_len;eq_refl)
|(apply G_fun;eq_refl))
      refine GC_loopK [0, 1, 2, 7, 10, 76, 77] (fun s : Nat × List Bool => [(78, nu s.1)]) (fun s => [.box b0 53 [.slice (some ⟨b1, 0, none⟩) (c.max + 1).toNat (c.max + 1).toNat], .vec booc 1 4 (some ⟨b1, 0, none⟩) (c.max + 1).toNat s.2, .old w none_]) (fun t => t.1 ≤ (ordM c).length ∧ t.2 = vAn c (ordM c) v2 t.1) (fun s => (ordM c).length - s.1) (0, _) (by repeat first | exact Pick.nil | (apply Pick.cons; eq_refl)) (by repeat first | exact trivial | refine ⟨rfl, ?_⟩) (by repeat first | exact Wk.nil | exact Wk.refl | (apply Wk.cons; (focus ((repeat first | exact Rem.here | apply Rem.there | apply Rem.skip); done))) | apply Wk.nilv | apply Wk.last | apply Wk.drop) ⟨Nat.zero_le _, rfl⟩ ?_
      rintro ⟨i, v3⟩ ⟨hi3, hv3⟩
      dsimp only at hi3 hv3 ⊢
      have hlen3 : v3.length = (c.max + 1).toNat := by rw [hv3, vAn_len, hlen2]
      rcases Nat.lt_or_ge i (ordM c).length with hlt | hge
      · have ho := R.ord (gt_mem (l := ordM c) (i := (i : Int)) (by omega) (by omega))
        have hst := vAn_succ c (ordM c) v2 i
        rw [← hv3] at hst
        obtain ⟨hd, hl1, hl2⟩ := R.gate (gt_mem (l := c.ands) ho.1 ho.2)
        have hl1' := hl1.has m1 hlen3
        have hl2' := hl2.has m1 hlen3
        unfold defR at hd
        have hlit : ∀ Γ, In Γ (.box b0 53 [.slice (some ⟨b1, 0, none⟩) (c.max + 1).toNat (c.max + 1).toNat]) → In Γ (.vec booc 1 4 (some ⟨b1, 0, none⟩) (c.max + 1).toNat v3) → ∀ l, hasL v3 l → ∀ w', Mem w' Γ → CVN Tryd.prog 89 ([nu l] ++ (#[pt b0] : Array Value).toList) w' fun r N => N = [] ∧ r = .bool (lv v3 l) := fun Γ h0 hi l hl w' M => of_cv (h0.box M) (hi.row M) hlen3.symm hl
        cases hx : lv v3 (gt c.ands (gt (ordM c) (i : Int))).2.1
        all_goals
          rw [hx] at hst
          repeat' (first
|(apply G_callF;eq_refl;eq_refl;infer_instance;eq_refl;(apply hlit;(repeat first|exact In.here|apply In.there|apply In.skip);(repeat first|exact In.here|apply In.there|apply In.skip);assumption);(first|rw [hx]|skip);rintro _ _ ⟨rfl, rfl⟩)
|(apply GC_seqK;intro K hK)
|(apply hK;clear hK K)
|(apply GC_block)
|(apply GC_region)
|(apply GL_nil)
|(apply thenG_normal)
|(apply blockG_normal)
|(apply GC_skip)
|(apply GC_if_true;eq_refl)
|(apply GL_on;eq_refl;eq_refl)
|(refine GC_draws (id := 17) [.q 0, .q 1, .q 2, .q 3, .q 4, .q 5, .q 6, .c 7, .q 8, .q 9, .q 10, .q 11, .c 12, .q 13, .q 14, .c 15] mixed (by kernel_rfl) (by kernel_rfl) ?_)
|(apply GS_nil)
|(apply GS_qon;eq_refl;eq_refl;eq_refl;eq_refl)
|(apply GS_qoff;eq_refl;eq_refl;eq_refl;eq_refl)
|(apply GS_con;eq_refl;eq_refl;eq_refl;eq_refl)
|(apply GS_coff;eq_refl;eq_refl;eq_refl;eq_refl)
|(apply G_pv;eq_refl;first|exact trivial|omega)
|(apply G_field;eq_refl)
|(apply G_ld;eq_refl;(repeat first|exact In.here|apply In.there|apply In.skip);eq_refl)
|(apply G_ldO;eq_refl;(repeat first|exact In.here|apply In.there|apply In.skip);assumption;eq_refl)
|(apply G_rd;eq_refl;(first|(apply Rd.own;(repeat first|exact In.here|apply In.there|apply In.skip);infer_instance)|(apply Rd.old;(repeat first|exact In.here|apply In.there|apply In.skip);assumption)|(apply Rd.oldR;(repeat first|exact In.here|apply In.there|apply In.skip);assumption)|exact Rd.nil|assumption);(case ih => infer_instance);omega;omega;eq_refl)
|(apply G_rdW;eq_refl;(first|(apply Rd.own;(repeat first|exact In.here|apply In.there|apply In.skip);infer_instance)|(apply Rd.old;(repeat first|exact In.here|apply In.there|apply In.skip);assumption)|(apply Rd.oldR;(repeat first|exact In.here|apply In.there|apply In.skip);assumption)|exact Rd.nil|assumption);infer_instance;(case ih => infer_instance);omega;omega)
|(apply G_cmpT;eq_refl;eq_refl;omega)
|(apply G_ix;eq_refl;eq_refl;(first|(apply Rd.own;(repeat first|exact In.here|apply In.there|apply In.skip);infer_instance)|(apply Rd.old;(repeat first|exact In.here|apply In.there|apply In.skip);assumption)|(apply Rd.oldR;(repeat first|exact In.here|apply In.there|apply In.skip);assumption)|exact Rd.nil|assumption);(first|eq_refl|omega);omega;omega)
|(apply G_alloc;eq_refl;intro _)
|(apply G_stV;(first|exact wr_p|kernel_rfl);eq_refl;eq_refl;eq_refl;eq_refl;(repeat first|exact Upd.here|apply Upd.there|apply Upd.skip);infer_instance;infer_instance;eq_refl;omega;(try simp only [List.length_set, List.length_append, List.length_replicate]);omega)
|(apply G_stW;(first|exact wr_p|kernel_rfl);eq_refl;eq_refl;eq_refl;eq_refl;(repeat first|exact Upd.here|apply Upd.there|apply Upd.skip);eq_refl))
        all_goals exact ⟨(i + 1, _), (by repeat first | exact trivial | refine ⟨rfl, ?_⟩), (by repeat first | exact Wk.nil | exact Wk.refl | (apply Wk.cons; (focus ((repeat first | exact Rem.here | apply Rem.there | apply Rem.skip); done))) | apply Wk.nilv | apply Wk.last | apply Wk.drop), ⟨hlt, hst.symm⟩, by simp only; omega⟩
      · obtain rfl : i = (ordM c).length := by omega
        repeat' (first
|(apply GC_seqK;intro K hK)
|(apply hK;clear hK K)
|(clear hK K;apply hK;clear hK K)
|(apply GC_region)
|(apply GL_nil)
|(apply thenG_normal)
|(apply thenG_exit)
|(apply blockG_hit)
|(apply GC_ret)
|(apply GC_exit)
|(apply GC_if_false;eq_refl)
|(apply retG1;eq_refl)
|(apply GL_on;eq_refl;eq_refl)
|(apply G_pv;eq_refl;first|exact trivial|omega)
|(apply G_ld;eq_refl;(repeat first|exact In.here|apply In.there|apply In.skip);eq_refl)
|(apply G_cmpF;eq_refl;eq_refl;omega))
        subst hv3 hv2 hv
        refine ⟨[_], (by repeat first | exact Wk.nil | exact Wk.refl | (apply Wk.cons; (focus ((repeat first | exact Rem.here | apply Rem.there | apply Rem.skip); done))) | apply Wk.nilv | apply Wk.last | apply Wk.drop), _, _, by rw [valM_len], rfl⟩
theorem next_cv {w : World} {c : Circ} {h js : Hd} {p : Nat} {A B : Option Addr} {k k1 : Nat} {v : List Bool} (hP : Blk w p 123 (rcells c h B k1)) (H : CirAt w c h js) (hA : RowA w booc 1 A v) (hn : c.latches.length ≤ 16384) (hl : ∀ x ∈ c.latches, hasL v x.2.1) :
    CVN Tryd.prog 64 [pt p, .slice A v.length k] w fun r N => ∃ A' k', r = .slice A' (nxtM c v).length k' ∧ N = [.vec booc 1 4 A' k' (nxtM c v)] := by
  have hLat := H.latches
  refine CVN.enter 35 [4] Tryd.func64 rfl rfl rfl (by decide) rfl ?_
  repeat' (first
|(apply GC_seqK;intro K hK)
|(apply hK;clear hK K)
|(apply GC_block)
|(apply GC_region)
|(apply GL_nil)
|(apply thenG_normal)
|(apply GL_on;eq_refl;eq_refl)
|(apply G_pv;eq_refl;first|exact trivial|omega)
|(apply G_field;eq_refl)
|(apply G_ldO;eq_refl;(repeat first|exact In.here|apply In.there|apply In.skip);assumption;eq_refl)
|(apply G_len;eq_refl)
|(apply G_make booc;eq_refl;eq_refl;eq_refl;omega;decide;intro _))
  rename_i b1
  refine GC_loopK [1, 5, 19, 20] (fun s : Nat × List Bool => [(21, nu s.1)]) (fun s => [.vec booc 1 4 (some ⟨b1, 0, none⟩) c.latches.length s.2, .old w none_]) (fun s => s.1 ≤ c.latches.length ∧ s.2 = fillL (fun x => lv v x.2.1) c.latches false s.1) (fun s => c.latches.length - s.1) (0, List.replicate c.latches.length false) (by repeat first | exact Pick.nil | (apply Pick.cons; eq_refl)) (by repeat first | exact trivial | refine ⟨rfl, ?_⟩) (by repeat first | exact Wk.nil | exact Wk.refl | (apply Wk.cons; (focus ((repeat first | exact Rem.here | apply Rem.there | apply Rem.skip); done))) | apply Wk.nilv | apply Wk.last | apply Wk.drop) ⟨Nat.zero_le _, fillL_0.symm⟩ ?_
  rintro ⟨i, out⟩ ⟨hi, hout⟩
  dsimp only at hi hout ⊢
  have hlen : out.length = c.latches.length := by rw [hout, fillL_len hi]
  rcases Nat.lt_or_ge i c.latches.length with hlt | hge
  · have hL := hl _ (gt_mem (l := c.latches) (i := (i : Int)) (by omega) (by omega))
    have hst := fillL_set (f := fun x : Tri => lv v x.2.1) (z := false) hlt
    rw [← hout] at hst
    have hlit : ∀ Γ, In Γ (.old w none_) → ∀ w', Mem w' Γ → CVN Tryd.prog 88 [.slice A v.length k, nu (gt c.latches (i : Int)).2.1] w' _ := fun Γ h0 w' M => is_cv (hA.chg (h0.old M)) rfl hL
    repeat' (first
|(apply G_call;eq_refl;eq_refl;(apply hlit;(repeat first|exact In.here|apply In.there|apply In.skip));rintro _ _ ⟨rfl, rfl⟩)
|(apply GC_seqK;intro K hK)
|(apply hK;clear hK K)
|(apply GC_block)
|(apply GC_region)
|(apply GL_nil)
|(apply thenG_normal)
|(apply blockG_normal)
|(apply GC_skip)
|(apply GC_if_true;eq_refl)
|(apply GL_on;eq_refl;eq_refl)
|(apply G_pv;eq_refl;first|exact trivial|omega)
|(apply G_field;eq_refl)
|(apply G_ld;eq_refl;(repeat first|exact In.here|apply In.there|apply In.skip);eq_refl)
|(apply G_rdW;eq_refl;(first|(apply Rd.own;(repeat first|exact In.here|apply In.there|apply In.skip);infer_instance)|(apply Rd.old;(repeat first|exact In.here|apply In.there|apply In.skip);assumption)|(apply Rd.oldR;(repeat first|exact In.here|apply In.there|apply In.skip);assumption)|exact Rd.nil|assumption);infer_instance;(case ih => infer_instance);omega;omega)
|(apply G_cmpT;eq_refl;eq_refl;omega)
|(apply G_ix;eq_refl;eq_refl;(first|(apply Rd.own;(repeat first|exact In.here|apply In.there|apply In.skip);infer_instance)|(apply Rd.old;(repeat first|exact In.here|apply In.there|apply In.skip);assumption)|(apply Rd.oldR;(repeat first|exact In.here|apply In.there|apply In.skip);assumption)|exact Rd.nil|assumption);(first|eq_refl|omega);omega;omega)
|(apply G_alloc;eq_refl;intro _)
|(apply G_stV;(first|exact wr_p|kernel_rfl);eq_refl;eq_refl;eq_refl;eq_refl;(repeat first|exact Upd.here|apply Upd.there|apply Upd.skip);infer_instance;infer_instance;eq_refl;omega;(try simp only [List.length_set, List.length_append, List.length_replicate]);omega)
|(apply G_stW;(first|exact wr_p|kernel_rfl);eq_refl;eq_refl;eq_refl;eq_refl;(repeat first|exact Upd.here|apply Upd.there|apply Upd.skip);eq_refl))
    exact ⟨(i + 1, _), (by repeat first | exact trivial | refine ⟨rfl, ?_⟩), (by repeat first | exact Wk.nil | exact Wk.refl | (apply Wk.cons; (focus ((repeat first | exact Rem.here | apply Rem.there | apply Rem.skip); done))) | apply Wk.nilv | apply Wk.last | apply Wk.drop), ⟨hlt, hst⟩, by simp only; omega⟩
  · rw [fillL_all hge] at hout
    repeat' (first
|(apply GC_seqK;intro K hK)
|(apply hK;clear hK K)
|(clear hK K;apply hK;clear hK K)
|(apply GC_region)
|(apply GL_nil)
|(apply thenG_normal)
|(apply thenG_exit)
|(apply blockG_hit)
|(apply GC_ret)
|(apply GC_exit)
|(apply GC_if_false;eq_refl)
|(apply retG1;eq_refl)
|(apply GL_on;eq_refl;eq_refl)
|(apply G_pv;eq_refl;first|exact trivial|omega)
|(apply G_cmpF;eq_refl;eq_refl;omega))
    have e1 : c.latches.length = (nxtM c v).length := by unfold nxtM; simp
    refine ⟨[.vec booc 1 4 (some ⟨b1, 0, none⟩) c.latches.length out], (by repeat first | exact Wk.nil | exact Wk.refl | (apply Wk.cons; (focus ((repeat first | exact Rem.here | apply Rem.there | apply Rem.skip); done))) | apply Wk.nilv | apply Wk.last | apply Wk.drop), some ⟨b1, 0, none⟩, c.latches.length, by rw [e1], by rw [hout]; rfl⟩
/-! ### slices.ContainsFunc at numbers -/
theorem indexFunc_cv {w : World} {f : FuncId} [F : Fn Tryd.prog f] {cap : Array Value} {p : Int → Bool} {A : Option Addr} {k : Nat} {ls : List Int} (hA : RowA w icell 1 A ls) (hn : ls.length ≤ 9223372036854775807) (hf : ∀ x ∈ ls, ∀ w', Chg w w' none_ → CVN Tryd.prog f ([nu x] ++ cap.toList) w' fun v N => N = [] ∧ v = .bool (p x)) :
    CVN Tryd.prog 69 [.slice A ls.length k, .func (.func f) #[] cap] w fun v N => N = [] ∧ ∃ i : Int, v = nu i ∧ decide (0 ≤ i) = ls.any p := by
  refine CVN.enter 19 [4] Tryd.func69 rfl rfl rfl (by decide) rfl ?_
  repeat' (first
|(apply GC_seqK;intro K hK)
|(apply hK;clear hK K)
|(apply GC_block)
|(apply GC_region)
|(apply GL_nil)
|(apply thenG_normal)
|(apply GL_on;eq_refl;eq_refl)
|(apply G_pv;eq_refl;first|exact trivial|omega)
|(apply G_len;eq_refl))
  refine GC_loopK [0, 1, 7] (fun i : Nat => [(8, nu i)]) (fun _ => [.old w none_]) (fun i => i ≤ ls.length ∧ (ls.take i).any p = false) (fun i => ls.length - i) 0 (by repeat first | exact Pick.nil | (apply Pick.cons; eq_refl)) (by repeat first | exact trivial | refine ⟨rfl, ?_⟩) (by repeat first | exact Wk.nil | exact Wk.refl | (apply Wk.cons; (focus ((repeat first | exact Rem.here | apply Rem.there | apply Rem.skip); done))) | apply Wk.nilv | apply Wk.last | apply Wk.drop) ⟨Nat.zero_le _, by simp⟩ ?_
  rintro i ⟨hi, hall⟩
  rcases Nat.lt_or_ge i ls.length with hlt | hge
  · have e1 := List.take_succ_eq_append_getElem hlt
    have eg := gt_nat hlt
    have hcl : ∀ Γ, In Γ (.old w none_) → ∀ w', Mem w' Γ → CVN Tryd.prog f ([nu (gt ls (i : Int))] ++ cap.toList) w' _ := fun Γ h0 w' M => hf _ (by rw [eg]; exact List.getElem_mem hlt) w' (h0.old M)
    rw [← eg] at e1
    cases hv : p (gt ls (i : Int))
    all_goals
      rw [hv] at hcl
      repeat' (first
|(apply G_callF;eq_refl;eq_refl;infer_instance;eq_refl;(apply hcl;(repeat first|exact In.here|apply In.there|apply In.skip));rintro _ _ ⟨rfl, rfl⟩)
|(apply GC_seqK;intro K hK)
|(apply hK;clear hK K)
|(apply GC_block)
|(apply GC_region)
|(apply GL_nil)
|(apply thenG_normal)
|(apply thenG_ret)
|(apply blockG_ret)
|(apply blockG_normal)
|(apply GC_ret)
|(apply GC_skip)
|(apply GC_if_true;eq_refl)
|(apply GC_if_false;eq_refl)
|(apply retG1;eq_refl)
|(apply GL_on;eq_refl;eq_refl)
|(apply G_pv;eq_refl;first|exact trivial|omega)
|(apply G_rd;eq_refl;(first|(apply Rd.own;(repeat first|exact In.here|apply In.there|apply In.skip);infer_instance)|(apply Rd.old;(repeat first|exact In.here|apply In.there|apply In.skip);assumption)|(apply Rd.oldR;(repeat first|exact In.here|apply In.there|apply In.skip);assumption)|exact Rd.nil|assumption);(case ih => infer_instance);omega;omega;eq_refl)
|(apply G_cmpT;eq_refl;eq_refl;omega)
|(apply G_ix;eq_refl;eq_refl;(first|(apply Rd.own;(repeat first|exact In.here|apply In.there|apply In.skip);infer_instance)|(apply Rd.old;(repeat first|exact In.here|apply In.there|apply In.skip);assumption)|(apply Rd.oldR;(repeat first|exact In.here|apply In.there|apply In.skip);assumption)|exact Rd.nil|assumption);(first|eq_refl|omega);omega;omega))
    · exact ⟨i + 1, (by repeat first | exact trivial | refine ⟨rfl, ?_⟩), (by repeat first | exact Wk.nil | exact Wk.refl | (apply Wk.cons; (focus ((repeat first | exact Rem.here | apply Rem.there | apply Rem.skip); done))) | apply Wk.nilv | apply Wk.last | apply Wk.drop), ⟨hlt, by rw [e1, List.any_append, hall]; simp [hv]⟩, by omega⟩
    · refine ⟨[], (by repeat first | exact Wk.nil | exact Wk.refl | (apply Wk.cons; (focus ((repeat first | exact Rem.here | apply Rem.there | apply Rem.skip); done))) | apply Wk.nilv | apply Wk.last | apply Wk.drop), rfl, _, rfl, ?_⟩
      have : ls.any p = true := List.any_eq_true.2 ⟨_, List.getElem_mem hlt, by rw [← eg, hv]⟩
      rw [this]
      simp
  · repeat' (first
|(apply GC_seqK;intro K hK)
|(apply hK;clear hK K)
|(clear hK K;apply hK;clear hK K)
|(apply GC_region)
|(apply GL_nil)
|(apply thenG_normal)
|(apply thenG_exit)
|(apply blockG_hit)
|(apply GC_ret)
|(apply GC_exit)
|(apply GC_if_false;eq_refl)
|(apply retG1;eq_refl)
|(apply GL_on;eq_refl;eq_refl)
|(apply G_pv;eq_refl;first|exact trivial|omega)
|(apply G_cmpF;eq_refl;eq_refl;omega))
    rw [List.take_of_length_le hge] at hall
    exact ⟨[], (by repeat first | exact Wk.nil | exact Wk.refl | (apply Wk.cons; (focus ((repeat first | exact Rem.here | apply Rem.there | apply Rem.skip); done))) | apply Wk.nilv | apply Wk.last | apply Wk.drop), rfl, _, rfl, by rw [hall]; rfl⟩
theorem containsFunc_cv {w : World} {f : FuncId} [F : Fn Tryd.prog f] {cap : Array Value} {p : Int → Bool} {A : Option Addr} {k : Nat} {ls : List Int} (hA : RowA w icell 1 A ls) (hn : ls.length ≤ 9223372036854775807) (hf : ∀ x ∈ ls, ∀ w', Chg w w' none_ → CVN Tryd.prog f ([nu x] ++ cap.toList) w' fun v N => N = [] ∧ v = .bool (p x)) :
    CVN Tryd.prog 41 [.slice A ls.length k, .func (.func f) #[] cap] w fun v N => N = [] ∧ v = .bool (ls.any p) := by
  have hix : ∀ Γ, In Γ (.old w none_) → ∀ w', Mem w' Γ → CVN Tryd.prog 69 [.slice A ls.length k, .func (.func f) #[] cap] w' _ := fun Γ h0 w' M => indexFunc_cv (p := p) (hA.chg (h0.old M)) hn fun x hx w2 hc => hf x hx w2 ((h0.old M).trans hc fun _ _ h => h)
  refine CVN.enter 9 [4] Tryd.func41 rfl rfl rfl (by decide) rfl ?_
  repeat' (first
|(apply G_call;eq_refl;eq_refl;(apply hix;(repeat first|exact In.here|apply In.there|apply In.skip));rintro _ _ ⟨rfl, i, rfl, hi⟩)
|(apply GC_seqK;intro K hK)
|(apply hK;clear hK K)
|(apply GC_region)
|(apply GL_nil)
|(apply thenG_normal)
|(apply GC_ret)
|(apply retG1;eq_refl)
|(apply GL_on;eq_refl;eq_refl)
|(apply G_pv;eq_refl;first|exact trivial|omega)
|(apply G_cmpD;eq_refl;eq_refl;(case hd => infer_instance)))
  exact ⟨[], (by repeat first | exact Wk.nil | exact Wk.refl | (apply Wk.cons; (focus ((repeat first | exact Rem.here | apply Rem.there | apply Rem.skip); done))) | apply Wk.nilv | apply Wk.last | apply Wk.drop), rfl, by rw [← hi]⟩
end SC
end Go.Proofs.YtclihihdgodloaaDoor
end
section
/- trestlebook: SameBools, SpoilBools; trestlelaw07: lent, lit. -/
set_option linter.unusedVariables false
set_option linter.unusedSimpArgs false
namespace Go.Proofs.YtclihihdgodloaaDoor
namespace SC
open Go.Proofs
attribute [local irreducible] WC WL WX WS WO OX Does DoesU Enters CV Pure thenQ blockQ retQ Wants retQC GC GL GS GX RdB thenG blockG retG Rd At gt CVN CVM
set_option maxRecDepth 100000
end SC
end Go.Proofs.YtclihihdgodloaaDoor
end
section
/- sim: ready, step, Values, Next, Holds, Starts. -/
set_option linter.unusedVariables false
set_option linter.unusedSimpArgs false
namespace Go.Proofs.YtclihihdgodloaaDoor
namespace SC
open Go.Proofs
/-- What ready answers. -/
def ReadyR (c : Circ) (h : Hd) (v : Value) (N : Mm) : Prop :=
  ((lookM c).2 ≠ 0 ∧ v = .tuple #[.pointer none, nu (lookM c).2] ∧ N = []) ∨ ((lookM c).2 = 0 ∧ ∃ p B k, v = .tuple #[pt p, nu 0] ∧ N = [.box p 123 (rcells c h B k), .vec icell 1 3 B k (ordM c)])
def StepR (c : Circ) (h : Hd) (s r : List Bool) (v : Value) (N : Mm) : Prop :=
  (stepE c s r ≠ 0 ∧ v = .tuple #[.pointer none, .slice none 0 0, nu (stepE c s r)] ∧ N = []) ∨
  (stepE c s r = 0 ∧ ∃ p B k A k', v = .tuple #[pt p, .slice A (valM c s r).length k', nu 0] ∧ N = [.vec booc 1 4 A k' (valM c s r), .box p 123 (rcells c h B k), .vec icell 1 3 B k (ordM c)])
attribute [local irreducible] WC WL WX WS WO OX Does DoesU Enters CV Pure thenQ blockQ retQ Wants retQC GC GL GS GX RdB thenG blockG retG Rd At gt CVN CVM
set_option maxRecDepth 100000
theorem ready_cv {w : World} {c : Circ} {h js : Hd} (H : CirIn w c h js) : CVN Tryd.prog 65 [.agg (ccells c h).toArray] w (ReadyR c h) := by
  have hord : ∀ Γ, In Γ (.old w none_) → ∀ w', Mem w' Γ → CVN Tryd.prog 75 [.agg (ccells c h).toArray] w' (OrdR c) := fun Γ hi w' M => have H' := H.chg (hi.old M); OrderG H'.at_ H'.sane
  refine CVN.enter 18 [2, 3] Tryd.func65 rfl rfl rfl (by decide) rfl ?_
  repeat' (first
|(apply G_call;eq_refl;eq_refl;(apply hord;(repeat first|exact In.here|apply In.there|apply In.skip));rintro _ _ (⟨he, rfl, rfl⟩|⟨he, A1, k1, rfl, rfl⟩))
|(apply GC_seqK;intro K hK)
|(apply hK;clear hK K)
|(apply GC_region)
|(apply GL_nil)
|(apply thenG_normal)
|(apply thenG_ret)
|(apply GC_ret)
|(apply GC_skip)
|(apply GC_if_true;eq_refl)
|(apply GC_if_false;eq_refl)
|(apply retG2;eq_refl;eq_refl)
|(apply GL_on;eq_refl;eq_refl)
|(apply G_pv;eq_refl;first|exact trivial|omega)
|(apply G_ldW;eq_refl;(repeat first|exact In.here|apply In.there|apply In.skip);eq_refl)
|(apply G_cmpT;eq_refl;eq_refl;omega)
|(apply G_cmpF;eq_refl;eq_refl;omega)
|(apply G_box;eq_refl;eq_refl;intro _)
|(apply GX_pure;apply build123_0_1 <;> eq_refl))
  · exact ⟨[], (by repeat first | exact Wk.nil | exact Wk.refl | (apply Wk.cons; (focus ((repeat first | exact Rem.here | apply Rem.there | apply Rem.skip); done))) | apply Wk.nilv | apply Wk.last | apply Wk.drop), .inl ⟨he, rfl, rfl⟩⟩
  · exact ⟨[.box _ 123 (rcells c h A1 k1), _], (by repeat first | exact Wk.nil | exact Wk.refl | (apply Wk.cons; (focus ((repeat first | exact Rem.here | apply Rem.there | apply Rem.skip); done))) | apply Wk.nilv | apply Wk.last | apply Wk.drop), .inr ⟨he, _, _, _, rfl, rfl⟩⟩
section
variable {w : World} {c : Circ} {h js : Hd} {S T : Option Addr} {k2 k3 : Nat} {s r : List Bool} (H : CirIn w c h js) (hS : RowA w booc 1 S s) (hT : RowA w booc 1 T r)
include H hS hT
theorem step_cv : CVN Tryd.prog 63 [.agg (ccells c h).toArray, .slice S s.length k2, .slice T r.length k3] w (StepR c h s r) := by
  have hrd : ∀ Γ, In Γ (.old w none_) → ∀ w', Mem w' Γ → CVN Tryd.prog 65 [.agg (ccells c h).toArray] w' (ReadyR c h) := fun Γ hi w' M => ready_cv (H.chg (hi.old M))
  have hvl : (lookM c).2 = 0 → s.length = c.latches.length → r.length = c.inputs.length → ∀ Γ p B k, In Γ (.old w none_) → In Γ (.box p 123 (rcells c h B k)) → In Γ (.vec icell 1 3 B k (ordM c)) → ∀ w', Mem w' Γ → CVN Tryd.prog 66 [pt p, .slice S s.length k2, .slice T r.length k3] w' _ := fun he h2 h3 Γ p B k hi hb hv w' M => by
    have H' := H.chg (hi.old M)
    exact values_cv (right_of H'.at_ H'.sane he) (hb.box M) H'.at_ (hv.row M) (hS.chg (hi.old M)) (hT.chg (hi.old M)) h2 h3
  refine CVN.enter 38 [6, 7, 8] Tryd.func63 rfl rfl rfl (by decide) rfl ?_
  repeat' (first
|(apply G_call;eq_refl;eq_refl;(apply hrd;(repeat first|exact In.here|apply In.there|apply In.skip));rintro _ _ (⟨he, rfl, rfl⟩|⟨he, p1, A1, k1, rfl, rfl⟩))
|(apply G_call;eq_refl;eq_refl;(apply hvl he;omega;omega;(repeat first|exact In.here|apply In.there|apply In.skip);(repeat first|exact In.here|apply In.there|apply In.skip);(repeat first|exact In.here|apply In.there|apply In.skip));rintro _ _ ⟨A2, k4, rfl, rfl⟩)
|(apply GC_seqK;intro K hK)
|(apply hK;clear hK K)
|(apply GC_region)
|(apply GL_nil)
|(apply thenG_normal)
|(apply thenG_ret)
|(apply GC_ret)
|(apply GC_skip)
|(apply GC_if_true;eq_refl)
|(apply GC_if_false;eq_refl)
|(apply retG3;eq_refl;eq_refl;eq_refl)
|(apply GL_on;eq_refl;eq_refl)
|(apply GL_off;eq_refl;eq_refl)
|(apply G_pv;eq_refl;first|exact trivial|omega)
|(apply G_field;eq_refl)
|(apply G_ld;eq_refl;(repeat first|exact In.here|apply In.there|apply In.skip);eq_refl)
|(apply G_ldW;eq_refl;(repeat first|exact In.here|apply In.there|apply In.skip);eq_refl)
|(apply G_cmpT;eq_refl;eq_refl;omega)
|(apply G_cmpF;eq_refl;eq_refl;omega)
|(apply G_cmp;eq_refl;eq_refl;all_goals intro _)
|(apply G_len;eq_refl)
|(apply G_box;eq_refl;eq_refl;intro _))
  all_goals first
    | exact ⟨[], (by repeat first | exact Wk.nil | exact Wk.refl | (apply Wk.cons; (focus ((repeat first | exact Rem.here | apply Rem.there | apply Rem.skip); done))) | apply Wk.nilv | apply Wk.last | apply Wk.drop), .inl ⟨by rw [stepE_look (by omega)]; assumption, by rw [stepE_look (by omega)], rfl⟩⟩
    | exact ⟨[], (by repeat first | exact Wk.nil | exact Wk.refl | (apply Wk.cons; (focus ((repeat first | exact Rem.here | apply Rem.there | apply Rem.skip); done))) | apply Wk.nilv | apply Wk.last | apply Wk.drop), .inl ⟨by rw [stepE_len (by omega) (by omega)]; decide, by rw [stepE_len (by omega) (by omega)], rfl⟩⟩
    | exact ⟨[_, _, _], (by repeat first | exact Wk.nil | exact Wk.refl | (apply Wk.cons; (focus ((repeat first | exact Rem.here | apply Rem.there | apply Rem.skip); done))) | apply Wk.nilv | apply Wk.last | apply Wk.drop), .inr ⟨stepE_ok (by omega) (by omega) (by omega), _, _, _, _, _, rfl, rfl⟩⟩
theorem ValuesP_cv : CVN Tryd.prog 33 [.agg (ccells c h).toArray, .slice S s.length k2, .slice T r.length k3] w (ValsR c s r) := by
  have hst : ∀ Γ, In Γ (.old w none_) → ∀ w', Mem w' Γ → CVN Tryd.prog 63 [.agg (ccells c h).toArray, .slice S s.length k2, .slice T r.length k3] w' (StepR c h s r) := fun Γ hi w' M => step_cv (H.chg (hi.old M)) (hS.chg (hi.old M)) (hT.chg (hi.old M))
  refine CVN.enter 21 [6, 7] Tryd.func33 rfl rfl rfl (by decide) rfl ?_
  repeat' (first
|(apply G_call;eq_refl;eq_refl;(apply hst;(repeat first|exact In.here|apply In.there|apply In.skip));rintro _ _ (⟨he, rfl, rfl⟩|⟨he, p1, B1, k1, A1, k4, rfl, rfl⟩))
|(apply GC_seqK;intro K hK)
|(apply hK;clear hK K)
|(apply GC_region)
|(apply GL_nil)
|(apply thenG_normal)
|(apply GC_ret)
|(apply retG2;eq_refl;eq_refl)
|(apply GL_on;eq_refl;eq_refl)
|(apply G_pv;eq_refl;first|exact trivial|omega)
|(apply G_ldW;eq_refl;(repeat first|exact In.here|apply In.there|apply In.skip);eq_refl)
|(apply G_box;eq_refl;eq_refl;intro _))
  · have e1 : valsM c s r = [] := if_neg he
    unfold ValsR
    rw [e1]
    exact ⟨[.vec booc 1 4 none 0 []], (by repeat first | exact Wk.nil | exact Wk.refl | (apply Wk.cons; (focus ((repeat first | exact Rem.here | apply Rem.there | apply Rem.skip); done))) | apply Wk.nilv | apply Wk.last | apply Wk.drop), none, 0, rfl, rfl⟩
  · have e1 : valsM c s r = valM c s r := if_pos he
    unfold ValsR
    rw [e1, he]
    exact ⟨[_], (by repeat first | exact Wk.nil | exact Wk.refl | (apply Wk.cons; (focus ((repeat first | exact Rem.here | apply Rem.there | apply Rem.skip); done))) | apply Wk.nilv | apply Wk.last | apply Wk.drop), _, _, rfl, rfl⟩
theorem NextP_cv : CVN Tryd.prog 34 [.agg (ccells c h).toArray, .slice S s.length k2, .slice T r.length k3] w (NextR c s r) := by
  have hst : ∀ Γ, In Γ (.old w none_) → ∀ w', Mem w' Γ → CVN Tryd.prog 63 [.agg (ccells c h).toArray, .slice S s.length k2, .slice T r.length k3] w' (StepR c h s r) := fun Γ hi w' M => step_cv (H.chg (hi.old M)) (hS.chg (hi.old M)) (hT.chg (hi.old M))
  have hnx : stepE c s r = 0 → ∀ Γ p B k A k', In Γ (.old w none_) → In Γ (.box p 123 (rcells c h B k)) → In Γ (.vec booc 1 4 A k' (valM c s r)) → ∀ w', Mem w' Γ → CVN Tryd.prog 64 [pt p, .slice A (valM c s r).length k'] w' _ := fun he Γ p B k A k' hi hb hv w' M => by
    have R := right_of H.at_ H.sane (stepE_zero he).1
    exact next_cv (hb.box M) (H.at_.chg (hi.old M)) (hv.row M) R.nLat fun x hx => (R.lat hx).2.1.has R.m1 (valM_len c s r)
  refine CVN.enter 25 [6, 7] Tryd.func34 rfl rfl rfl (by decide) rfl ?_
  repeat' (first
|(apply G_call;eq_refl;eq_refl;(apply hst;(repeat first|exact In.here|apply In.there|apply In.skip));rintro _ _ (⟨he, rfl, rfl⟩|⟨he, p1, B1, k1, A1, k4, rfl, rfl⟩))
|(apply G_call;eq_refl;eq_refl;(apply hnx he;(repeat first|exact In.here|apply In.there|apply In.skip);(repeat first|exact In.here|apply In.there|apply In.skip);(repeat first|exact In.here|apply In.there|apply In.skip));rintro _ _ ⟨A2, k5, rfl, rfl⟩)
|(apply GC_seqK;intro K hK)
|(apply hK;clear hK K)
|(apply GC_region)
|(apply GL_nil)
|(apply thenG_normal)
|(apply thenG_ret)
|(apply GC_ret)
|(apply GC_skip)
|(apply GC_if_true;eq_refl)
|(apply GC_if_false;eq_refl)
|(apply retG2;eq_refl;eq_refl)
|(apply GL_on;eq_refl;eq_refl)
|(apply G_pv;eq_refl;first|exact trivial|omega)
|(apply G_ldW;eq_refl;(repeat first|exact In.here|apply In.there|apply In.skip);eq_refl)
|(apply G_cmpT;eq_refl;eq_refl;omega)
|(apply G_cmpF;eq_refl;eq_refl;omega)
|(apply G_box;eq_refl;eq_refl;intro _))
  · have e1 : nextM c s r = [] := if_neg he
    unfold NextR
    rw [e1]
    exact ⟨[.vec booc 1 4 none 0 []], (by repeat first | exact Wk.nil | exact Wk.refl | (apply Wk.cons; (focus ((repeat first | exact Rem.here | apply Rem.there | apply Rem.skip); done))) | apply Wk.nilv | apply Wk.last | apply Wk.drop), none, 0, rfl, rfl⟩
  · have e1 : nextM c s r = nxtM c (valM c s r) := if_pos he
    unfold NextR
    rw [e1, he]
    exact ⟨[_], (by repeat first | exact Wk.nil | exact Wk.refl | (apply Wk.cons; (focus ((repeat first | exact Rem.here | apply Rem.there | apply Rem.skip); done))) | apply Wk.nilv | apply Wk.last | apply Wk.drop), _, _, rfl, rfl⟩
end
end SC
end Go.Proofs.YtclihihdgodloaaDoor
end
section
/- What is so in a step. trestleref07: moment. -/
set_option linter.unusedVariables false
set_option linter.unusedSimpArgs false
namespace Go.Proofs.YtclihihdgodloaaDoor
namespace SC
open Go.Proofs
attribute [local irreducible] WC WL WX WS WO OX Does DoesU Enters CV Pure thenQ blockQ retQ Wants retQC GC GL GS GX RdB thenG blockG retG Rd At gt CVN CVM
set_option maxRecDepth 100000
end SC
end Go.Proofs.YtclihihdgodloaaDoor
end
section
/- sim: moment. -/
set_option linter.unusedVariables false
set_option linter.unusedSimpArgs false
namespace Go.Proofs.YtclihihdgodloaaDoor
namespace SC
open Go.Proofs
attribute [local irreducible] WC WL WX WS WO OX Does DoesU Enters CV Pure thenQ blockQ retQ Wants retQC GC GL GS GX RdB thenG blockG retG Rd At gt CVN CVM
set_option maxRecDepth 100000
end SC
end Go.Proofs.YtclihihdgodloaaDoor
end
section
/- Traces and runs. trestleref07: Fits, Run0, Run; sim: Run. -/
set_option linter.unusedVariables false
set_option linter.unusedSimpArgs false
namespace Go.Proofs.YtclihihdgodloaaDoor
namespace SC
open Go.Proofs
abbrev Hdl := Option Addr × Nat
/-- A trace, each row with its handle. -/
structure Trc where
  init : List Bool
  rows : List (Hdl × List Bool)
  loop : Int
/-- The states of a run, and what is so in its steps. -/
noncomputable def stM (c : Circ) (t : Trc) : Nat → List Bool
  | 0 => t.init
  | k + 1 => nxtM c (valM c (stM c t k) (gt t.rows (k : Int)).2)
attribute [local irreducible] WC WL WX WS WO OX Does DoesU Enters CV Pure thenQ blockQ retQ Wants retQC GC GL GS GX RdB thenG blockG retG Rd At gt CVN CVM
set_option maxRecDepth 100000
end SC
end Go.Proofs.YtclihihdgodloaaDoor
end
section
/- trestleref07: Run; sim: Run. -/
set_option linter.unusedVariables false
set_option linter.unusedSimpArgs false
namespace Go.Proofs.YtclihihdgodloaaDoor
namespace SC
open Go.Proofs
attribute [local irreducible] WC WL WX WS WO OX Does DoesU Enters CV Pure thenQ blockQ retQ Wants retQC GC GL GS GX RdB thenG blockG retG Rd At gt CVN CVM
set_option maxRecDepth 100000
end SC
end Go.Proofs.YtclihihdgodloaaDoor
end
section
/- trestlelaw07: works. -/
set_option linter.unusedVariables false
set_option linter.unusedSimpArgs false
namespace Go.Proofs.YtclihihdgodloaaDoor
namespace SC
open Go.Proofs
attribute [local irreducible] WC WL WX WS WO OX Does DoesU Enters CV Pure thenQ blockQ retQ Wants retQC GC GL GS GX RdB thenG blockG retG Rd At CVN CVM
set_option maxRecDepth 100000
end SC
end Go.Proofs.YtclihihdgodloaaDoor
end
section
/- ShapeChecks: the walk. -/
set_option linter.unusedVariables false
set_option linter.unusedSimpArgs false
namespace Go.Proofs.YtclihihdgodloaaDoor
namespace SC
open Go.Proofs
attribute [local irreducible] WC WL WX WS WO OX Does DoesU Enters CV Pure thenQ blockQ retQ Wants retQC
set_option maxRecDepth 100000
end SC
end Go.Proofs.YtclihihdgodloaaDoor
end
section
/- trestlelaw07: SimStarts, SimSteps: the walks. -/
set_option linter.unusedVariables false
set_option linter.unusedSimpArgs false
namespace Go.Proofs.YtclihihdgodloaaDoor
namespace SC
open Go.Proofs
/-- A lent circuit, as an entry. -/
def lentX (base : Nat) (c : Circ) (h js : Hd) : EntX where
  own := fun k => ∃ i, (lentRow c h js i).v.ownBlock = some k
  ok := fun w => CirLent w base c h js
  lt := fun w H k ⟨i, hi⟩ => (World.ownsRow.lt (H i) k hi).2
  keep := fun w w' S H hc hn => fun i => own_chg (H i) hc fun k hk => hn k ⟨i, hk⟩
theorem In.lent {Γ : Mm} {w w0 : World} {base : Nat} {c : Circ} {h js h' js' : Hd} (H : CirIn w0 c h js) (hi : In Γ (.any (lentX base c h' js'))) (M : Mem w Γ) : CirIn w c h' js' := ⟨CirLent.at (hi.ok M), H.sane, H.okay, H.fits⟩
attribute [local irreducible] WC WL WX WS WO OX Does DoesU Enters CV Pure thenQ blockQ retQ Wants retQC GC GL GS GX RdB thenG blockG retG Rd At gt CVN CVM
set_option maxRecDepth 100000
end SC
end Go.Proofs.YtclihihdgodloaaDoor
end
section
/- trestlelaw07: SimSteps: the walk. -/
set_option linter.unusedVariables false
set_option linter.unusedSimpArgs false
namespace Go.Proofs.YtclihihdgodloaaDoor
namespace SC
open Go.Proofs
attribute [local irreducible] WC WL WX WS WO OX Does DoesU Enters CV Pure thenQ blockQ retQ Wants retQC GC GL GS GX RdB thenG blockG retG Rd At gt CVN CVM
set_option maxRecDepth 100000
end SC
end Go.Proofs.YtclihihdgodloaaDoor
end
section
/- Lists of bools that come in. -/
set_option linter.unusedVariables false
set_option linter.unusedSimpArgs false
namespace Go.Proofs.YtclihihdgodloaaDoor
namespace SC
open Go.Proofs
set_option maxRecDepth 100000
section
variable {H : Type} {enc : TypeId × Value → H} {W : World} {base : Nat} {spare : Nat → Bool} {held : Bool}
end
end SC
end Go.Proofs.YtclihihdgodloaaDoor
end
section
/- What is so of the values of a right circuit; trestlelaw07: lit. -/
set_option linter.unusedVariables false
set_option linter.unusedSimpArgs false
namespace Go.Proofs.YtclihihdgodloaaDoor
namespace SC
open Go.Proofs
/-! ### a list that is written from the left -/
section
variable {g : Nat → Nat} {h : List Bool → Nat → Bool} {v : List Bool}
end
theorem nodup_ix {l : List Int} (h : l.Nodup) {a b : Nat} (ha : a < l.length) (hb : b < l.length) (e : l[a] = l[b]) : a = b := by
  have hp := List.pairwise_iff_getElem.1 h
  rcases Nat.lt_trichotomy a b with h1 | h1 | h1
  · exact absurd e (hp a b ha hb h1)
  · exact h1
  · exact absurd e.symm (hp b a hb ha h1)
attribute [local irreducible] WC WL WX WS WO OX Does DoesU Enters CV Pure thenQ blockQ retQ Wants retQC GC GL GS GX RdB thenG blockG retG Rd At gt CVN CVM
set_option maxRecDepth 100000
end SC
end Go.Proofs.YtclihihdgodloaaDoor
end
section
/- Three values: the plain law. -/
set_option linter.unusedVariables false
set_option linter.unusedSimpArgs false
namespace Go.Proofs.YtclihihdgodloaaDoor
namespace SC
open Go.Proofs
def tnot (x : Int) : Int := if x = 2 then 2 else 1 - x
def tand (x y : Int) : Int := if x = 0 ∨ y = 0 then 0 else if x = 1 ∧ y = 1 then 1 else 2
def Is3 (x : Int) : Prop := 0 ≤ x ∧ x ≤ 2
def Row3 (l : List Int) : Prop := ∀ x ∈ l, Is3 x
theorem Is3.tnot {x : Int} (h : Is3 x) : Is3 (tnot x) := by unfold Is3 at *; unfold SC.tnot; split <;> omega
theorem is3_tand (x y : Int) : Is3 (tand x y) := by unfold Is3; unfold tand; split <;> (try split) <;> omega
/-- A literal's value. -/
def tl (v : List Int) (l : Int) : Int := if l % 2 = 1 then tnot (gt v (l / 2)) else gt v (l / 2)
theorem Row3.gt {l : List Int} (h : Row3 l) {i : Int} : 0 ≤ i → i < l.length → Is3 (gt l i) := fun h0 h1 => h _ (gt_mem h0 h1)
theorem Row3.tl {v : List Int} (h : Row3 v) {l : Int} (h0 : 0 ≤ l / 2) (h1 : l / 2 < v.length) : Is3 (tl v l) := by
  unfold SC.tl
  split
  · exact (h.gt h0 h1).tnot
  · exact h.gt h0 h1
theorem Row3.set {l : List Int} (h : Row3 l) {i : Nat} {x : Int} (hx : Is3 x) : Row3 (l.set i x) := fun y hy => by
  rcases List.mem_or_eq_of_mem_set hy with h1 | h1
  · exact h y h1
  · rw [h1]; exact hx
/-! ### the values -/
def tB (c : Circ) : List Int := 0 :: List.replicate c.max.toNat 2
def tIn (c : Circ) (r : List Int) (i : Nat) : List Int := (List.range i).foldl (fun v (k : Nat) => v.set (gt c.inputs (k : Int) / 2).toNat (gt r (k : Int))) (tB c)
def tLt (c : Circ) (s v : List Int) (i : Nat) : List Int := (List.range i).foldl (fun v (k : Nat) => v.set ((gt c.latches (k : Int)).1 / 2).toNat (gt s (k : Int))) v
def tAn (c : Circ) (ord : List Int) (v : List Int) (i : Nat) : List Int := (List.range i).foldl (fun v (k : Nat) => v.set ((gt c.ands (gt ord (k : Int))).1 / 2).toNat (tand (tl v (gt c.ands (gt ord (k : Int))).2.1) (tl v (gt c.ands (gt ord (k : Int))).2.2))) v
noncomputable def valT (c : Circ) (s r : List Int) : List Int := tAn c (ordM c) (tLt c s (tIn c r c.inputs.length) c.latches.length) (ordM c).length
theorem foldI_len (g : List Int → Nat → Nat) (h : List Int → Nat → Int) (v : List Int) (i : Nat) : ((List.range i).foldl (fun v k => v.set (g v k) (h v k)) v).length = v.length := by
  induction i with
  | zero => simp
  | succ i ih => rw [fold_snoc, List.length_set, ih]
theorem tB_len {c : Circ} (m0 : 0 ≤ c.max) : (tB c).length = (c.max + 1).toNat := by unfold tB; rw [List.length_cons, List.length_replicate]; omega
theorem tIn_len {c : Circ} (m0 : 0 ≤ c.max) (r : List Int) (i : Nat) : (tIn c r i).length = (c.max + 1).toNat := by unfold tIn; rw [foldI_len, tB_len m0]
theorem tLt_len (c : Circ) (s v : List Int) (i : Nat) : (tLt c s v i).length = v.length := by unfold tLt; rw [foldI_len]
theorem tAn_len (c : Circ) (ord : List Int) (v : List Int) (i : Nat) : (tAn c ord v i).length = v.length := by unfold tAn; rw [foldI_len]
theorem valT_len {c : Circ} (m0 : 0 ≤ c.max) (s r : List Int) : (valT c s r).length = (c.max + 1).toNat := by unfold valT; rw [tAn_len, tLt_len, tIn_len m0]
theorem tIn_succ (c : Circ) (r : List Int) (i : Nat) : tIn c r (i + 1) = (tIn c r i).set (gt c.inputs (i : Int) / 2).toNat (gt r (i : Int)) := by unfold tIn; rw [fold_snoc]
theorem tLt_succ (c : Circ) (s v : List Int) (i : Nat) : tLt c s v (i + 1) = (tLt c s v i).set ((gt c.latches (i : Int)).1 / 2).toNat (gt s (i : Int)) := by unfold tLt; rw [fold_snoc]
theorem tAn_succ (c : Circ) (o : List Int) (v : List Int) (i : Nat) : tAn c o v (i + 1) = (tAn c o v i).set ((gt c.ands (gt o (i : Int))).1 / 2).toNat (tand (tl (tAn c o v i) (gt c.ands (gt o (i : Int))).2.1) (tl (tAn c o v i) (gt c.ands (gt o (i : Int))).2.2)) := by unfold tAn; rw [fold_snoc]
theorem tB_row (c : Circ) : Row3 (tB c) := fun x hx => by
  unfold tB at hx
  rcases List.mem_cons.1 hx with rfl | h
  · exact ⟨by decide, by decide⟩
  · rw [(List.mem_replicate.1 h).2]
    exact ⟨by decide, by decide⟩
theorem tIn_row {c : Circ} {r : List Int} (hr : Row3 r) : ∀ i ≤ r.length, Row3 (tIn c r i)
  | 0, _ => tB_row c
  | i + 1, h => by rw [tIn_succ]; exact (tIn_row hr i (by omega)).set (hr.gt (by omega) (by omega))
theorem tLt_row {c : Circ} {s v : List Int} (hs : Row3 s) (hv : Row3 v) : ∀ i ≤ s.length, Row3 (tLt c s v i)
  | 0, _ => hv
  | i + 1, h => by rw [tLt_succ]; exact (tLt_row hs hv i (by omega)).set (hs.gt (by omega) (by omega))
theorem tAn_row {c : Circ} {o v : List Int} (hv : Row3 v) : ∀ i : Nat, Row3 (tAn c o v i)
  | 0 => hv
  | i + 1 => by rw [tAn_succ]; exact (tAn_row hv i).set (is3_tand _ _)
theorem valT_row {c : Circ} {s r : List Int} (hs : Row3 s) (hr : Row3 r) (h1 : s.length = c.latches.length) (h2 : r.length = c.inputs.length) : Row3 (valT c s r) := tAn_row (tLt_row hs (tIn_row hr _ (by omega)) _ (by omega)) _
/-- The next row of latches. -/
def nxtT (c : Circ) (v : List Int) : List Int := c.latches.map fun x => tl v x.2.1
theorem inR.hasI {c : Circ} {l : Int} {v : List Int} (h : inR c l) (hv : v.length = (c.max + 1).toNat) : 0 ≤ l / 2 ∧ l / 2 < v.length := by unfold inR at h; omega
/-- The row with which a circuit begins. -/
def rsT (c : Circ) : List Int := c.latches.map fun x => if x.2.2 < 2 then x.2.2 else 2
theorem rsT_row {c : Circ} (R : Right c) : Row3 (rsT c) := fun x hx => by
  unfold rsT at hx
  obtain ⟨y, hy, rfl⟩ := List.mem_map.1 hx
  obtain ⟨h1, _, h2⟩ := R.lat hy
  unfold defR at h1
  unfold Is3
  split <;> omega
/-- What two rows have in common. -/
def joinT (a b : List Int) : List Int := (List.range a.length).map fun (i : Nat) => if gt a (i : Int) = gt b (i : Int) then gt a (i : Int) else 2
theorem joinT_len (a b : List Int) : (joinT a b).length = a.length := by unfold joinT; simp
theorem joinT_gt {a b : List Int} {i : Nat} (h : i < a.length) : gt (joinT a b) (i : Int) = if gt a (i : Int) = gt b (i : Int) then gt a (i : Int) else 2 := by
  rw [gt_nat (by rw [joinT_len]; exact h)]
  unfold joinT
  rw [List.getElem_map, List.getElem_range]
theorem joinT_row {a b : List Int} (ha : Row3 a) : Row3 (joinT a b) := fun x hx => by
  unfold joinT at hx
  obtain ⟨i, hi, rfl⟩ := List.mem_map.1 hx
  have hi := List.mem_range.1 hi
  split
  · exact ha.gt (by omega) (by omega)
  · exact ⟨by decide, by decide⟩
/-! ### settling -/
/-- One round of settling. -/
noncomputable def setT (c : Circ) (a : List Int) : List Int := joinT a (nxtT c (valT c a (List.replicate c.inputs.length 2)))
theorem setT_len (c : Circ) (a : List Int) : (setT c a).length = a.length := joinT_len _ _
/-- How many are open. -/
def opn (l : List Int) : Nat := l.countP fun x => decide (x = 2)
theorem opn_le (l : List Int) : opn l ≤ l.length := List.countP_le_length
theorem row_ext {a b : List Int} (hl : a.length = b.length) (h : ∀ i : Nat, i < a.length → gt a (i : Int) = gt b (i : Int)) : a = b := by
  apply List.ext_getElem hl
  intro i h1 h2
  have := h i h1
  rwa [gt_nat h1, gt_nat h2] at this
theorem countP_lt {α : Type} {p : α → Bool} : ∀ {a b : List α}, a.length = b.length → (∀ i (h1 : i < a.length) (h2 : i < b.length), p a[i] = true → p b[i] = true) → (∃ i, ∃ h1 : i < a.length, ∃ h2 : i < b.length, p a[i] = false ∧ p b[i] = true) → a.countP p < b.countP p
  | [], _, _, _, ⟨i, h, _⟩ => absurd h (Nat.not_lt_zero _)
  | x :: a, [], hl, _, _ => by cases hl
  | x :: a, y :: b, hl, h, ⟨i, h1, h2, g1, g2⟩ => by
    have hle : ∀ (a b : List α), a.length = b.length → (∀ i (h1 : i < a.length) (h2 : i < b.length), p a[i] = true → p b[i] = true) → a.countP p ≤ b.countP p := by
      intro a
      induction a with
      | nil => intro b _ _; simp
      | cons x a ih =>
        intro b hl h
        cases b with
        | nil => cases hl
        | cons y b =>
          have h0 := h 0 (by simp) (by simp)
          have hr := ih b (by simpa using hl) fun i h1 h2 => h (i + 1) (by simpa using h1) (by simpa using h2)
          simp only [List.getElem_cons_zero] at h0
          rw [List.countP_cons, List.countP_cons]
          cases hp : p x
          · simp; omega
          · rw [h0 hp]; simp; omega
    have h0 := h 0 (by simp) (by simp)
    simp only [List.getElem_cons_zero] at h0
    rw [List.countP_cons, List.countP_cons]
    rcases i with _ | i
    · simp only [List.getElem_cons_zero] at g1 g2
      have hr := hle a b (by simpa using hl) fun i h1 h2 => h (i + 1) (by simpa using h1) (by simpa using h2)
      rw [g1, g2]
      simp
      omega
    · have hr := countP_lt (p := p) (a := a) (b := b) (by simpa using hl) (fun i h1 h2 => h (i + 1) (by simpa using h1) (by simpa using h2)) ⟨i, by simpa using h1, by simpa using h2, by simpa using g1, by simpa using g2⟩
      cases hp : p x
      · simp; omega
      · rw [h0 hp]; simp; omega
theorem joinT_opn {a b : List Int} (h : joinT a b ≠ a) : opn a < opn (joinT a b) := by
  unfold opn
  have hl := joinT_len a b
  refine countP_lt hl.symm (fun i h1 h2 hp => ?_) ?_
  · have := joinT_gt (a := a) (b := b) h1
    rw [gt_nat h2, gt_nat h1] at this
    rw [this]
    split
    · exact hp
    · rfl
  · refine Classical.byContradiction fun hn => h ?_
    refine row_ext hl fun i hi => ?_
    rw [hl] at hi
    have hj := joinT_gt (a := a) (b := b) hi
    rw [hj]
    split
    · rfl
    · rename_i hne
      by_cases h2 : gt a (i : Int) = 2
      · exact h2.symm
      · refine absurd ⟨i, hi, by omega, ?_, ?_⟩ hn
        · rw [gt_nat hi] at h2
          exact decide_eq_false h2
        · rw [gt_nat (by omega), if_neg hne] at hj
          exact decide_eq_true hj
/-- The rows of settling. -/
noncomputable def stT (c : Circ) : Nat → List Int
  | 0 => rsT c
  | n + 1 => setT c (stT c n)
theorem stT_len (c : Circ) : ∀ n, (stT c n).length = c.latches.length
  | 0 => by unfold stT rsT; simp
  | n + 1 => by unfold stT; rw [setT_len, stT_len c n]
theorem stT_row {c : Circ} (R : Right c) : ∀ n, Row3 (stT c n)
  | 0 => rsT_row R
  | n + 1 => joinT_row (stT_row R n)
theorem stT_opn (c : Circ) : ∀ n, (∀ k < n, setT c (stT c k) ≠ stT c k) → n ≤ opn (stT c n)
  | 0, _ => Nat.zero_le _
  | n + 1, h => by
    have h1 := stT_opn c n fun k hk => h k (by omega)
    have h2 := joinT_opn (h n (by omega))
    show n + 1 ≤ opn (setT c (stT c n))
    unfold setT
    omega
theorem stT_ends (c : Circ) : ∃ n, setT c (stT c n) = stT c n := Classical.byContradiction fun hn => by
  have h1 := stT_opn c (c.latches.length + 1) fun k _ he => hn ⟨k, he⟩
  have h2 := opn_le (stT c (c.latches.length + 1))
  rw [stT_len] at h2
  omega
end SC
end Go.Proofs.YtclihihdgodloaaDoor
end
section
/- trestlelaw07: SimGates: the walk. -/
set_option linter.unusedVariables false
set_option linter.unusedSimpArgs false
namespace Go.Proofs.YtclihihdgodloaaDoor
namespace SC
open Go.Proofs
attribute [local irreducible] WC WL WX WS WO OX Does DoesU Enters CV Pure thenQ blockQ retQ Wants retQC GC GL GS GX RdB thenG blockG retG Rd At gt CVN CVM
set_option maxRecDepth 100000
end SC
end Go.Proofs.YtclihihdgodloaaDoor
end
section
/- trestlebook: SameInts, SpoilInts, SameTrace; trestlelaw07: same. -/
set_option linter.unusedVariables false
set_option linter.unusedSimpArgs false
namespace Go.Proofs.YtclihihdgodloaaDoor
namespace SC
open Go.Proofs Go.Maps
set_option maxRecDepth 100000
/-! ### spots -/
/-! ### traces -/
/-! ### the moments of a run, in memory -/
attribute [local irreducible] WC WL WX WS WO OX Does DoesU Enters CV Pure thenQ blockQ retQ Wants retQC GC GL GS GX RdB thenG blockG retG Rd At gt CVN CVM
end SC
end Go.Proofs.YtclihihdgodloaaDoor
end
section
/- trestlebook: CopyTrace; runs of traces that read the same. -/
set_option linter.unusedVariables false
set_option linter.unusedSimpArgs false
namespace Go.Proofs.YtclihihdgodloaaDoor
namespace SC
open Go.Proofs
attribute [local irreducible] WC WL WX WS WO OX Does DoesU Enters CV Pure thenQ blockQ retQ Wants retQC GC GL GS GX RdB thenG blockG retG Rd At gt CVN CVM
set_option maxRecDepth 100000
end SC
end Go.Proofs.YtclihihdgodloaaDoor
end
section
/- Entries bound together; what runs answer. -/
set_option linter.unusedVariables false
set_option linter.unusedSimpArgs false
namespace Go.Proofs.YtclihihdgodloaaDoor
namespace SC
open Go.Proofs
/-- Entries as one. -/
def bun (Δ : Mm) : EntX where
  own := owns Δ
  ok := fun w => Mem w Δ
  lt := fun w M k hk => M.lt hk
  keep := fun w w' S M hc hn => M.chg hc hn
theorem In.bun {Γ Δ : Mm} {w : World} (h : In Γ (.any (bun Δ))) (M : Mem w Γ) : Mem w Δ := h.ok M
theorem Rd.bun {α : Type} {Γ Δ : Mm} {enc : α → List Value} {sz : Nat} {A : Option Addr} {l : List α} (h : In Γ (.any (bun Δ))) (h0 : Rd Δ enc sz A l) : Rd Γ enc sz A l := fun w M => h0.at (h.bun M)
theorem CVN.bun {P : Program} {f : FuncId} {args : List Value} {w : World} {R : Value → Mm → Prop} (h : CVN P f args w R) : CVN P f args w fun v N => ∃ N', R v N' ∧ N = [.any (bun N')] :=
  CV.mono h fun v w' ⟨N, M, hR⟩ => ⟨[.any (SC.bun N)], Mem.join (.one M.left) M.right fun k ⟨E, hE, h1⟩ h2 => by
    simp only [List.mem_singleton] at hE
    subst hE
    exact M.sep k h1 h2, N, hR, rfl⟩
theorem Wk.left {Γ Δ : Mm} : Wk (Δ ++ Γ) Δ := ⟨fun w M => M.left, fun k hk => owns_append.2 (.inl hk)⟩
end SC
end Go.Proofs.YtclihihdgodloaaDoor
end
section
/- trestlelaw07: SimRuns: the walk. -/
set_option linter.unusedVariables false
set_option linter.unusedSimpArgs false
namespace Go.Proofs.YtclihihdgodloaaDoor
namespace SC
open Go.Proofs
attribute [local irreducible] WC WL WX WS WO OX Does DoesU Enters CV Pure thenQ blockQ retQ Wants retQC GC GL GS GX RdB thenG blockG retG Rd At gt CVN CVM
attribute [local irreducible] fam bun
set_option maxRecDepth 100000
end SC
end Go.Proofs.YtclihihdgodloaaDoor
end
section
/- Traces that come in. -/
set_option linter.unusedVariables false
set_option linter.unusedSimpArgs false
namespace Go.Proofs.YtclihihdgodloaaDoor
namespace SC
open Go.Proofs
set_option maxRecDepth 100000
section
variable {H : Type} {enc : TypeId × Value → H} {W : World} {base : Nat} {spare : Nat → Bool} {held : Bool}
end
end SC
end Go.Proofs.YtclihihdgodloaaDoor
end
section
/- A back part of a slice; numbers without a sign; a run from one of its states. -/
set_option linter.unusedVariables false
set_option linter.unusedSimpArgs false
namespace Go.Proofs.YtclihihdgodloaaDoor
namespace SC
open Go.Proofs
set_option maxRecDepth 100000
section
variable {n : Nat} {all : List Oper} {K : Env → Mm → Prop} {m : Md} {e : Env} {Γ : Mm} {d : Option Tmp} {ty t t' t0 : TypeId} {x y : Operand} {td : TypeDesc} {sz sz1 by_ by1 : Nat} {zv z1 : Value} {ag ag1 : Bool}
theorem p_remU {P : Program} {a b : Int} (h : ev e x = some (.int .u64 a)) (h1 : ev e y = some (.int .u64 b)) (h2 : 0 ≤ a) (h4 : 0 < b) : Pure P (.binOp .rem t x y t') ty e (.int .u64 (a % b)) := by
  intro w ρ dst pos af g hρ
  have h5 : b ≠ 0 := by omega
  simp [execOp, hρ _ _ h, hρ _ _ h1, eqGuard, binOp, Op.intDiv, h5, Int.tmod_eq_emod_of_nonneg h2]
theorem p_sliceFrom {P : Program} {t0 : TypeId} (hu : P.underlying t = some (.slice t0)) (T : Ty P t0 td sz zv by_ ag) {A : Option Addr} {n c : Nat} {k : IntKind} {i : Nat} (h : ev e x = some (.slice A n c)) (h1 : ev e y = some (.int k (i : Int))) (h0 : i < n) (h2 : n ≤ c) :
    Pure P (.slice t x (some y) none none) ty e (.slice (A.map (·.add (i * sz))) (n - i) (c - i)) := by
  intro w ρ dst pos af g hρ
  have := run_sliceBound (P := P) (w := w) k (i : Int) n .sliceB (by omega) (by omega)
  have hc : c ≠ i := by omega
  cases A <;> simp [execOp, hρ _ _ h, hρ _ _ h1, Instr.sliceAt, Instr.slice, Instr.sliceBounds, run_underlying hu, T.size, this, hc]
end
theorem RowA.drop {α : Type} {w : World} {enc : α → List Value} {sz : Nat} {A : Option Addr} {l : List α} (h : RowA w enc sz A l) (i : Nat) : RowA w enc sz (A.map (·.add (i * sz))) (l.drop i) := fun k hk => by
  rw [List.length_drop] at hk
  obtain ⟨p, rfl, hp⟩ := h (i + k) (by omega)
  refine ⟨p.add (i * sz), rfl, fun j u hj => ?_⟩
  rw [List.getElem_drop] at hj
  have := hp j u hj
  rw [show ((i + k : Nat) : Int).toNat = i + k by omega, Nat.add_mul] at this
  rw [show (k : Int).toNat = k by omega, Addr.add_add p]
  exact this
/-- The trace from a state on. -/
noncomputable def tail (c : Circ) (t : Trc) (i : Nat) : Trc := ⟨stM c t i, t.rows.drop i, -1⟩
end SC
end Go.Proofs.YtclihihdgodloaaDoor
end
section
/- trestleref03: Lit, Lits, Binary. -/
set_option linter.unusedVariables false
set_option linter.unusedSimpArgs false
namespace Go.Proofs.YtclihihdgodloaaDoor
namespace SC
open Go.Proofs
attribute [local irreducible] WC WL WX WS WO OX Does DoesU Enters CV Pure thenQ blockQ retQ Wants retQC GC GL GS GX RdB thenG blockG retG Rd At gt CVN CVM
set_option maxRecDepth 100000
end SC
end Go.Proofs.YtclihihdgodloaaDoor
end
section
/- The renumbering's map: what it gives to each variable of a right circuit. -/
set_option linter.unusedVariables false
set_option linter.unusedSimpArgs false
namespace Go.Proofs.YtclihihdgodloaaDoor
namespace SC
open Go.Proofs
section
variable {c : Circ} (R : Right c)
include R
end
end SC
end Go.Proofs.YtclihihdgodloaaDoor
end
section
/- Definitions that are apart pass; the renumbered circuit's definitions. -/
set_option linter.unusedVariables false
set_option linter.unusedSimpArgs false
namespace Go.Proofs.YtclihihdgodloaaDoor
namespace SC
open Go.Proofs
/-! ### the renumbered circuit -/
section
variable {c : Circ} (R : Right c)
/-- The circuit in the binary order; the map. -/
noncomputable abbrev renC (c : Circ) : Circ := renM c (ordM c)
noncomputable abbrev toM (c : Circ) : List Int := mapOf c.max (defsOf c (ordM c))
include R
end
end SC
end Go.Proofs.YtclihihdgodloaaDoor
end
section
/- The renumbered circuit is right. -/
set_option linter.unusedVariables false
set_option linter.unusedSimpArgs false
namespace Go.Proofs.YtclihihdgodloaaDoor
namespace SC
open Go.Proofs
section
variable {c : Circ} (R : Right c)
include R
end
end SC
end Go.Proofs.YtclihihdgodloaaDoor
end
section
/- The renumbered circuit's order; it looks right. -/
set_option linter.unusedVariables false
set_option linter.unusedSimpArgs false
namespace Go.Proofs.YtclihihdgodloaaDoor
namespace SC
open Go.Proofs
section
variable {c : Circ} (R : Right c)
include R
/-- A gate that another one uses was told before it. -/
theorem Right.low {k : Nat} (hk : k < (ordM c).length) {l : Int} (hl : l = (andAt c (ordM c)[k]).2.1 ∨ l = (andAt c (ordM c)[k]).2.2) {j : Nat} (hj : j < (ordM c).length) (e : l / 2 = (andAt c (ordM c)[j]).1 / 2) : j < k := by
  have ho := R.ord (List.getElem_mem hj)
  have hlt : (ordM c)[j].toNat < c.ands.length := by omega
  have h3 := (R.tab.gat _ hlt).2
  have ea : andAt c (ordM c)[j] = c.ands[(ordM c)[j].toNat] := by unfold andAt; simp [hlt]
  rw [← ea, ← e, show (((ordM c)[j].toNat : Nat) : Int) = (ordM c)[j] by omega] at h3
  have hsp : ordM c = (ordM c).take k ++ (ordM c)[k] :: (ordM c).drop (k + 1) := by
    have h1 := List.take_append_drop k (ordM c)
    rw [List.drop_eq_getElem_cons hk] at h1
    exact h1.symm
  have hlow := (R.all.told.split hsp).1.low
  have hb : (ordM c)[j] ∈ gateB (tabM c) c (ordM c)[k] := by
    show (ordM c)[j] ∈ belowL (tabM c) [(andAt c (ordM c)[k]).2.1, (andAt c (ordM c)[k]).2.2]
    rw [mem_belowL]
    exact ⟨l, by rcases hl with rfl | rfl <;> simp, kindAt_get h3, atOf_get h3⟩
  obtain ⟨k', hk', ek⟩ := List.mem_iff_getElem.1 (hlow _ hb)
  rw [List.length_take] at hk'
  rw [List.getElem_take] at ek
  have := nodup_ix R.all.told.nodup (a := k') (b := j) (by omega) hj ek
  omega
end
end SC
end Go.Proofs.YtclihihdgodloaaDoor
end
section
/- The renumbered circuit's values and runs. -/
set_option linter.unusedVariables false
set_option linter.unusedSimpArgs false
namespace Go.Proofs.YtclihihdgodloaaDoor
namespace SC
open Go.Proofs
section
variable {c : Circ}
end
section
variable {c : Circ} (R : Right c)
include R
end
end SC
end Go.Proofs.YtclihihdgodloaaDoor
end
section
/- Runs of the renumbered circuit. -/
set_option linter.unusedVariables false
set_option linter.unusedSimpArgs false
namespace Go.Proofs.YtclihihdgodloaaDoor
namespace SC
open Go.Proofs
section
variable {c : Circ} (R : Right c) (R' : Right (renC c))
include R R'
end
end SC
end Go.Proofs.YtclihihdgodloaaDoor
end
section
/- The binary order: a right circuit has it just if renumbering leaves it as it is. -/
set_option linter.unusedVariables false
set_option linter.unusedSimpArgs false
namespace Go.Proofs.YtclihihdgodloaaDoor
namespace SC
open Go.Proofs
section
variable {c : Circ} (R : Right c)
include R
end
end SC
end Go.Proofs.YtclihihdgodloaaDoor
end
section
/- shape: Renumber, by entries. -/
set_option linter.unusedVariables false
set_option linter.unusedSimpArgs false
namespace Go.Proofs.YtclihihdgodloaaDoor
namespace SC
open Go.Proofs
section
variable {c : Circ} (R : Right c)
include R
end
/-- A renumbered circuit of its own and its map, as one entry. -/
def renX (base : Nat) (c : Circ) (h js : Hd) (A : Option Addr) (k : Nat) : EntX where
  own := fun b => (∃ i, (cirRows (renC c) h js js (renC c).justice.length i).v.ownBlock = some b) ∨ (Value.slice A (toM c).length k).ownBlock = some b
  ok := fun w => CirOwn w base (renC c) h js ∧ w.ownsRow base 3 1 (.slice A (toM c).length k) (toM c).length ((toM c).flatMap icell)
  lt := fun w H b hb => by
    rcases hb with ⟨i, hi⟩ | hb
    · exact (Rows.lt H.1 hi).2
    · exact (World.ownsRow.lt H.2 b hb).2
  keep := fun w w' S H hc hn => ⟨Rows.chg H.1 hc fun i b hb => hn b (.inl ⟨i, hb⟩), own_chg H.2 hc fun b hb => hn b (.inr hb)⟩
attribute [local irreducible] WC WL WX WS WO OX Does DoesU Enters CV Pure thenQ blockQ retQ Wants retQC GC GL GS GX RdB thenG blockG retG Rd At gt CVN CVM
set_option maxRecDepth 100000
end SC
end Go.Proofs.YtclihihdgodloaaDoor
end
section
/- trestlelaw07: SimNumbers: the walk. -/
set_option linter.unusedVariables false
set_option linter.unusedSimpArgs false
namespace Go.Proofs.YtclihihdgodloaaDoor
namespace SC
open Go.Proofs
attribute [local irreducible] WC WL WX WS WO OX Does DoesU Enters CV Pure thenQ blockQ retQ Wants retQC GC GL GS GX RdB thenG blockG retG Rd At gt CVN CVM
attribute [local irreducible] fam bun renX
set_option maxRecDepth 100000
end SC
end Go.Proofs.YtclihihdgodloaaDoor
end
section
/- slices.Equal, slices.EqualFunc; shape's Same. -/
set_option linter.unusedVariables false
set_option linter.unusedSimpArgs false
namespace Go.Proofs.YtclihihdgodloaaDoor
namespace SC
open Go.Proofs
attribute [local irreducible] WC WL WX WS WO OX Does DoesU Enters CV Pure thenQ blockQ retQ Wants retQC
set_option maxRecDepth 100000
theorem equalInts_cv {w : World} {A B : Option Addr} {c d : Nat} {l m : List Int} (R : RowA w icell 1 A l) (R' : RowA w icell 1 B m) (hl : l.length ≤ 9223372036854775807) (hm : m.length ≤ 9223372036854775807) :
    CV Tryd.prog 53 [.slice A l.length c, .slice B m.length d] w fun v w' => v = .bool (decide (l = m)) ∧ Chg w w' none_ := by
  refine enter 26 [4] Tryd.func53 rfl rfl rfl (by decide) rfl ?_
  by_cases hlm : l.length = m.length
  · have e : (m.length : Int) = l.length := by omega
    repeat' (first
|(apply WC_seqK;intro K hK)
|(apply hK;clear hK)
|(apply WC_block)
|(apply WC_region)
|(apply WL_nil)
|(apply thenQ_normal)
|(apply WC_skip)
|(apply WC_if_false;eq_refl)
|(apply WL_on0;eq_refl)
|(apply X_pv;eq_refl;first|exact trivial|omega)
|(apply X_cmpF;eq_refl;eq_refl;omega)
|(apply X_len;eq_refl))
    refine WC_loop (fun i : Nat => [(0, .slice A l.length c), (1, .slice B m.length d), (12, nu l.length), (13, nu i)]) (fun i W => Chg w W none_ ∧ i ≤ l.length ∧ l.take i = m.take i) (fun i => l.length - i) 0 ⟨rfl, rfl, rfl, rfl, trivial⟩ ⟨Chg.refl _ _, Nat.zero_le _, by simp⟩ ?_
    rintro i w1 ⟨hC1, hi, heq⟩
    rcases Nat.lt_or_ge i l.length with hlt | hge
    · have hltm : i < m.length := by omega
      obtain ⟨p, hp, hpc⟩ := (R.chg hC1).one hlt (v := nu l[i]) rfl
      obtain ⟨q, hq, hqc⟩ := (R'.chg hC1).one hltm (v := nu m[i]) rfl
      have h1 := List.take_succ_eq_append_getElem hlt
      have h2 := List.take_succ_eq_append_getElem hltm
      rw [hp, hq]
      generalize hx : l[i] = x at *
      generalize hy : m[i] = y at *
      repeat' (first
|(apply WC_seqK;intro K hK)
|(apply hK;clear hK)
|(apply WC_block)
|(apply WC_region)
|(apply WL_nil)
|(apply thenQ_normal)
|(apply WC_skip)
|(apply WC_if_true;eq_refl)
|(apply WL_on0;eq_refl)
|(apply X_pv;eq_refl;first|exact trivial|omega)
|(apply X_cmpT;eq_refl;eq_refl;omega))
      refine WC_draws [(0, true), (1, true), (2, true), (3, true), (4, true), (5, true), (6, true), (7, true), (8, true)] (fun W => W.cell? (p.add ((i : Int).toNat * 1)) = some (nu x) ∧ W.cell? (q.add ((i : Int).toNat * 1)) = some (nu y)) mixed (by kernel_rfl) (by kernel_rfl) ?_
      have hS : w1.drew.cell? (p.add ((i : Int).toNat * 1)) = some (nu x) ∧ w1.drew.cell? (q.add ((i : Int).toNat * 1)) = some (nu y) := ⟨hpc, hqc⟩
      repeat' (first
|(apply WC_seqK;intro K hK)
|(apply hK;clear hK)
|(apply WC_region)
|(apply WL_nil)
|(apply thenQ_normal)
|(apply thenQ_ret)
|(apply blockQ_ret)
|(apply blockQ_normal)
|(apply WC_ret)
|(apply WC_skip)
|(apply WC_if_true;eq_refl)
|(apply WC_if_false;eq_refl)
|(apply ret1;eq_refl)
|(apply WS_nil)
|(apply WS_next;eq_refl)
|(apply WO_on0;eq_refl)
|(apply O_pv;eq_refl;(first|exact trivial|omega);(first|assumption|exact trivial))
|(apply O_loadC;eq_refl;(first|(intro _ h;exact h)|(intro _ h;exact h.1)|(intro _ h;exact h.2)|(intro _ h;exact h.2.1)|(intro _ h;exact h.2.2)|(intro _ h;exact h.2.2.1)|(intro _ h;exact h.2.2.2));(first|assumption|exact trivial))
|(apply O_cmp;eq_refl;eq_refl;(first|assumption|exact trivial);all_goals intro _)
|(apply O_indexP;eq_refl;eq_refl;omega;omega;(first|assumption|exact trivial))
|(apply WL_on0;eq_refl)
|(apply X_pv;eq_refl;first|exact trivial|omega))
      · have e2 : decide (l = m) = false := decide_eq_false fun h => by
          have hxy : x = y := by rw [← hx, ← hy]; simp only [h]
          contradiction
        rw [e2]
        exact ⟨rfl, hC1.dr⟩
      · refine ⟨i + 1, ⟨by first | rfl | (rw [hp]; rfl), by first | rfl | (rw [hq]; rfl), rfl, rfl, trivial⟩, ⟨hC1.dr, hlt, ?_⟩, by omega⟩
        have hxy : x = y := by first | assumption | omega
        rw [h1, h2, heq, hxy]
    · repeat' (first
|(apply WC_seqK;intro K hK)
|(apply hK;clear hK)
|(clear hK;apply hK;clear hK)
|(apply WC_region)
|(apply WL_nil)
|(apply thenQ_normal)
|(apply thenQ_exit)
|(apply blockQ_hit)
|(apply WC_ret)
|(apply WC_exit)
|(apply WC_if_false;eq_refl)
|(apply ret1;eq_refl)
|(apply WL_on0;eq_refl)
|(apply X_pv;eq_refl;first|exact trivial|omega)
|(apply X_cmpF;eq_refl;eq_refl;omega))
      rw [List.take_of_length_le (by omega), List.take_of_length_le (by omega)] at heq
      rw [heq]
      exact ⟨by simp, hC1⟩
  · have e : decide (l = m) = false := decide_eq_false fun h => hlm (by rw [h])
    rw [e]
    repeat' (first
|(apply WC_seqK;intro K hK)
|(apply hK;clear hK)
|(apply WC_region)
|(apply WL_nil)
|(apply thenQ_normal)
|(apply thenQ_ret)
|(apply WC_ret)
|(apply WC_if_true;eq_refl)
|(apply ret1;eq_refl)
|(apply WL_on0;eq_refl)
|(apply X_pv;eq_refl;first|exact trivial|omega)
|(apply X_cmpT;eq_refl;eq_refl;omega)
|(apply X_len;eq_refl))
    exact ⟨rfl, Chg.refl _ _⟩
end SC
end Go.Proofs.YtclihihdgodloaaDoor
end
section
/- slices.EqualFunc at lists of lists; shape's Same. -/
set_option linter.unusedVariables false
set_option linter.unusedSimpArgs false
namespace Go.Proofs.YtclihihdgodloaaDoor
namespace SC
open Go.Proofs
attribute [local irreducible] WC WL WX WS WO OX Does DoesU Enters CV Pure thenQ blockQ retQ Wants retQC
set_option maxRecDepth 100000
end SC
end Go.Proofs.YtclihihdgodloaaDoor
end
section
/- trestlebook: SpoilCircuit. -/
set_option linter.unusedVariables false
set_option linter.unusedSimpArgs false
namespace Go.Proofs.YtclihihdgodloaaDoor
namespace SC
open Go.Proofs
attribute [local irreducible] WC WL WX WS WO OX Does DoesU Enters CV Pure thenQ blockQ retQ Wants retQC
set_option maxRecDepth 100000
end SC
end Go.Proofs.YtclihihdgodloaaDoor
end
section
/- IsBinary, of the reference and of shape. -/
set_option linter.unusedVariables false
set_option linter.unusedSimpArgs false
namespace Go.Proofs.YtclihihdgodloaaDoor
namespace SC
open Go.Proofs
attribute [local irreducible] WC WL WX WS WO OX Does DoesU Enters CV Pure thenQ blockQ retQ Wants retQC GC GL GS GX RdB thenG blockG retG Rd At gt CVN CVM
attribute [local irreducible] renX
set_option maxRecDepth 100000
end SC
end Go.Proofs.YtclihihdgodloaaDoor
end
section
/- The renumbered circuit has the binary order. -/
set_option linter.unusedVariables false
set_option linter.unusedSimpArgs false
namespace Go.Proofs.YtclihihdgodloaaDoor
namespace SC
open Go.Proofs
section
variable {c : Circ} (R : Right c)
include R
end
end SC
end Go.Proofs.YtclihihdgodloaaDoor
end
section
/- trestlelaw03: ShapeSettles: the walk. -/
set_option linter.unusedVariables false
set_option linter.unusedSimpArgs false
namespace Go.Proofs.YtclihihdgodloaaDoor
namespace SC
open Go.Proofs
attribute [local irreducible] WC WL WX WS WO OX Does DoesU Enters CV Pure thenQ blockQ retQ Wants retQC GC GL GS GX RdB thenG blockG retG Rd At gt CVN CVM
attribute [local irreducible] renX
set_option maxRecDepth 100000
end SC
end Go.Proofs.YtclihihdgodloaaDoor
end
section
/- trestlebook: CopyCircuit by entries; trestleref03: Renumber. -/
set_option linter.unusedVariables false
set_option linter.unusedSimpArgs false
namespace Go.Proofs.YtclihihdgodloaaDoor
namespace SC
open Go.Proofs
end SC
end Go.Proofs.YtclihihdgodloaaDoor
end
section
/- General words: clauses in memory, families bound together, regions whose changes are kept apart. (Collected out of N1, N2, N9, N11, N37, N39, N40, N41 for seats without their functions.) -/
set_option linter.unusedVariables false
set_option linter.unusedSimpArgs false
namespace Go.Proofs.YtclihihdgodloaaDoor
namespace SC
open Go.Proofs
def rowJ (p : Hdl × List Int) : Mm := [.vec icell 1 3 p.1.1 p.1.2 p.2]
theorem Wk.one {E : Ent} {Γ : Mm} : Wk (E :: Γ) [E] := Wk.cons .here .nil
theorem Wk.there {Γ Γ' : Mm} (h : Wk Γ Γ') : Wk Γ ([] ++ Γ') := h
theorem Upd.left {Θ Θ' Γ : Mm} {E F : Ent} (h : Upd Θ E F Θ') : Upd (Θ ++ Γ) E F (Θ' ++ Γ) := by
  induction h with
  | here => exact .here
  | there _ ih => exact .there ih
section
variable {P : Program} {n : Nat} {all : List Oper} {K : Env → Mm → Prop} {A : List Fl} {Θ Θ' C : Mm} {r : List PStep} {e : Env} {Γ Γ' : Mm} {j : Nat} {d : Option Tmp} {ty t t0 : TypeId} {x y : Operand}
/-- What was kept apart comes back. -/
theorem GS_nilP (h : K e (Θ ++ Γ)) : GS P n all K [] Θ [] e Γ := by
  intro B a Q fuel listed w hB ha hs M hQ hp hns hsz hsh hF hok
  obtain rfl : B = [] := by simpa using hB
  simp only [planM, Bool.and_eq_true, List.isEmpty_iff] at hok
  obtain rfl := Nat.eq_of_beq_eq_true hok.2
  exact ⟨hok.1.2, hQ a w e (Θ ++ Γ) ha (show Mem w (Θ ++ Γ) from M) h⟩
/-- Entries kept apart: no quiet operation looks at them. -/
theorem GC_drawsP {id : Nat} {l : List Oper} {Q : PostG} (pl : List PStep) (hm : P.follows .mixedOrders = true) (hns : Region.noSelect l.toArray = true) (hok : planM l.toArray pl l.toArray.size (Array.replicate l.toArray.size false) [] = true) (hC : Rems Γ C Γ')
    (h : GS P n l (fun e Γ => Q .normal e Γ) [] C pl e Γ') : GC P n (.region id l.toArray true) Q e Γ := fun w M a ha =>
  wp_region_any hm (wpAny_of_M _ _ _ _ _ (h [] a _ _ _ _ rfl ha (fun _ _ h => (by cases h)) (show Mem w.drew (C ++ Γ') from Mem.takes hC M.drew) (fun a' w' e' Γ' ha' M' hK => ⟨e', ha', Γ', M', hK⟩) lift_panic hns (by simp) (Shut.init _ _ _) ⟨fun _ h => (by cases h), List.Pairwise.nil, List.Pairwise.nil⟩ hok))
end
def rowL (p : Hdl × List Int) : Ent := .vec icell 1 3 p.1.1 p.1.2 p.2
theorem flat_row : ∀ ps : List (Hdl × List Int), ps.flatMap rowJ = ps.map rowL
  | [] => rfl
  | a :: r => by rw [List.flatMap_cons, flat_row r]; rfl
theorem fam_perm (ps : List (Hdl × List Int)) : (ps.map rowL).Perm (fam rowJ ps) := by
  have : fam rowJ ps = (ps.map rowL).reverse := by
    unfold fam
    rw [← List.map_reverse]
    exact flat_row _
  rw [this]
  exact (List.reverse_perm _).symm
section
variable {P : Program} {n : Nat} {all : List Oper} {K : Env → Mm → Prop} {m : Md} {e : Env} {Γ Γ' Γ1 Γ2 Θ : Mm} {d : Option Tmp} {ty t t0 : TypeId} {x y : Operand} {c : Code} {Q : PostG} {td : TypeDesc} {sz by_ : Nat} {zv : Value} {ag : Bool}
theorem Wk.part {C D : Mm} (hR : Rems Γ C Γ1) (h : Wk C D) (h2 : Wk Γ1 Γ') : Wk Γ (D ++ Γ') := by
  refine ⟨fun w M => ?_, fun k hk => ?_⟩
  · have M1 := M.perm hR.perm
    exact (h.mem w M1.left).join (h2.mem w M1.right) fun k k1 k2 => M1.sep k (h.sub k k1) (h2.sub k k2)
  · rw [owns_perm hR.perm, owns_append]
    exact (owns_append.1 hk).imp (h.sub k) (h2.sub k)
theorem bun_in {D : Mm} : Wk D [.any (bun D)] := ⟨fun w M => Mem.one (E := .any (bun D)) M, fun k hk => (owns_cons.1 hk).elim id fun h => absurd h owns_nil⟩
theorem bun_out {D : Mm} : Wk [.any (bun D)] D := ⟨fun w M => M.head, fun k hk => owns_cons.2 (.inl hk)⟩
theorem fam_mid (a b : List (Hdl × List Int)) (x : Hdl × List Int) : (fam rowJ (a ++ x :: b)).Perm (rowL x :: fam rowJ (a ++ b)) := by
  refine (fam_perm _).symm.trans ?_
  rw [List.map_append, List.map_cons]
  refine List.perm_middle.trans ((List.Perm.cons _) ?_)
  rw [← List.map_append]
  exact fam_perm _
theorem row_in (a b : List (Hdl × List Int)) (x : Hdl × List Int) : Wk [rowL x, .any (bun (fam rowJ (a ++ b)))] [.any (bun (fam rowJ (a ++ x :: b)))] :=
  (Wk.cons .here bun_out).trans ((Wk.perm (fam_mid a b x).symm).trans bun_in)
end
theorem Wk.same {E F : Ent} (h1 : ∀ w, E.ok w → F.ok w) (h2 : ∀ k, F.own k → E.own k) : Wk [E] [F] := ⟨fun w M => Mem.one (h1 w M.head), fun k hk => owns_cons.2 ((owns_cons.1 hk).imp (h2 k) fun h => absurd h owns_nil)⟩
section
variable {P : Program} {e : Env} {w : World} {t : TypeId} {td : TypeDesc} {sz by_ : Nat} {zv : Value}
end
end SC
end Go.Proofs.YtclihihdgodloaaDoor
end
section
/- math/bits.Mul64, Mul; copy; slices.Repeat at numbers. -/
set_option linter.unusedVariables false
set_option linter.unusedSimpArgs false
namespace Go.Proofs.YtclihihdgodloaaDoor
namespace SC
open Go.Proofs
section
variable {P : Program} {n : Nat} {all : List Oper} {K : Env → Mm → Prop} {m : Md} {e : Env} {Γ Γ' : Mm} {d : Option Tmp} {ty t t' t0 : TypeId} {x y : Operand}
theorem p_uintX {a : Int} (h : ev e x = some (nu a)) : Pure Tryd.prog (.convert 3 55 x) ty e (.int .u64 (a % 18446744073709551616)) := by
  unfold Pure Does
  intro w ρ dst pos af g hρ
  have hw : IntKind.u64.wrap a = a % 18446744073709551616 := by rw [IntKind.wrap_u64]
  simp [execOp, hρ _ _ h, convert, Conv.intToInt, run_underlying Tryd.underlying3, run_underlying Tryd.underlying55, hw]
theorem G_uintX {a : Int} (h : ev e x = some (nu a)) (h0 : 0 ≤ a) (h1 : a ≤ 9223372036854775807) (hr : GN Tryd.prog n all K m (push d (.int .u64 a) e) Γ) : GX Tryd.prog n all K m d (.convert 3 55 x) ty e Γ :=
  GX_pure (p_uintX h) (by rw [Int.emod_eq_of_lt h0 (by omega)]; exact hr)
theorem p_ofuX {a : Int} (h : ev e x = some (.int .u64 a)) (h0 : 0 ≤ a) (h1 : a ≤ 9223372036854775807) : Pure Tryd.prog (.convert 55 3 x) ty e (nu a) := by
  unfold Pure Does
  intro w ρ dst pos af g hρ
  have hw : IntKind.i64.wrap a = a := by rw [IntKind.wrap_i64]; omega
  simp [execOp, hρ _ _ h, convert, Conv.intToInt, run_underlying Tryd.underlying3, run_underlying Tryd.underlying55, hw]
theorem G_ofuX {a : Int} (h : ev e x = some (.int .u64 a)) (h0 : 0 ≤ a) (h1 : a ≤ 9223372036854775807) (hr : GN Tryd.prog n all K m (push d (nu a) e) Γ) : GX Tryd.prog n all K m d (.convert 55 3 x) ty e Γ := GX_pure (p_ofuX h h0 h1) hr
theorem p_shrX {a : Int} (h : ev e x = some (.int .u64 a)) (h1 : ev e y = some (.int .u64 32)) (h2 : 0 ≤ a) (h3 : a < 4294967296) : Pure P (.binOp .shr t x y t') ty e (.int .u64 0) := by
  intro w ρ dst pos af g hρ
  have h5 : a.fdiv (2 ^ (min (32 : Int).toNat IntKind.u64.bits)) = 0 := by
    have e : (2 : Int) ^ (min (32 : Int).toNat IntKind.u64.bits) = 4294967296 := by decide
    rw [e, Int.fdiv_eq_ediv_of_nonneg _ (by decide)]
    omega
  simp [execOp, hρ _ _ h, hρ _ _ h1, eqGuard, binOp, Op.shift]
  exact h5
theorem p_andX {a : Int} (h : ev e x = some (.int .u64 a)) (h1 : ev e y = some (.int .u64 4294967295)) (h2 : 0 ≤ a) (h3 : a < 4294967296) : Pure P (.binOp .and t x y t') ty e (.int .u64 a) := by
  intro w ρ dst pos af g hρ
  have h5 : IntKind.u64.wrap (BitVec.ofInt IntKind.u64.bits a &&& BitVec.ofInt IntKind.u64.bits 4294967295).toNat = a := by
    obtain ⟨k, rfl⟩ : ∃ k : Nat, a = (k : Int) := ⟨a.toNat, by omega⟩
    have e1 : (BitVec.ofInt IntKind.u64.bits (k : Int) &&& BitVec.ofInt IntKind.u64.bits 4294967295).toNat = k := by
      rw [BitVec.toNat_and]
      have e2 : (BitVec.ofInt IntKind.u64.bits (k : Int)).toNat = k := by
        show (BitVec.ofInt 64 (k : Int)).toNat = k
        rw [BitVec.toNat_ofInt]
        omega
      have e3 : (BitVec.ofInt IntKind.u64.bits 4294967295).toNat = 2 ^ 32 - 1 := by decide
      rw [e2, e3, Nat.and_two_pow_sub_one_eq_mod]
      omega
    rw [e1, IntKind.wrap_u64]
    omega
  simp [execOp, hρ _ _ h, hρ _ _ h1, eqGuard, binOp, Op.intBits]
  exact h5
theorem p_mulX {a b : Int} (h : ev e x = some (.int .u64 a)) (h1 : ev e y = some (.int .u64 b)) (h2 : 0 ≤ a * b) (h3 : a * b < 18446744073709551616) : Pure P (.binOp .mul t x y t') ty e (.int .u64 (a * b)) := by
  intro w ρ dst pos af g hρ
  have h5 : IntKind.u64.wrap (a * b) = a * b := by rw [IntKind.wrap_u64, Int.emod_eq_of_lt h2 h3]
  simp [execOp, hρ _ _ h, hρ _ _ h1, eqGuard, binOp, Op.intArith, h5]
theorem p_addX {a b : Int} (h : ev e x = some (.int .u64 a)) (h1 : ev e y = some (.int .u64 b)) (h2 : 0 ≤ a + b) (h3 : a + b < 18446744073709551616) : Pure P (.binOp .add t x y t') ty e (.int .u64 (a + b)) := by
  intro w ρ dst pos af g hρ
  have h5 : IntKind.u64.wrap (a + b) = a + b := by rw [IntKind.wrap_u64, Int.emod_eq_of_lt h2 h3]
  simp [execOp, hρ _ _ h, hρ _ _ h1, eqGuard, binOp, Op.intArith, h5]
theorem G_shrX {a : Int} (h : ev e x = some (.int .u64 a)) (h1 : ev e y = some (.int .u64 32)) (h2 : 0 ≤ a) (h3 : a < 4294967296) (hr : GN P n all K m (push d (.int .u64 0) e) Γ) : GX P n all K m d (.binOp .shr t x y t') ty e Γ := GX_pure (p_shrX h h1 h2 h3) hr
theorem G_andX {a : Int} (h : ev e x = some (.int .u64 a)) (h1 : ev e y = some (.int .u64 4294967295)) (h2 : 0 ≤ a) (h3 : a < 4294967296) (hr : GN P n all K m (push d (.int .u64 a) e) Γ) : GX P n all K m d (.binOp .and t x y t') ty e Γ := GX_pure (p_andX h h1 h2 h3) hr
theorem G_mulX {a b : Int} (h : ev e x = some (.int .u64 a)) (h1 : ev e y = some (.int .u64 b)) (h2 : 0 ≤ a * b) (h3 : a * b < 18446744073709551616) (hr : GN P n all K m (push d (.int .u64 (a * b)) e) Γ) : GX P n all K m d (.binOp .mul t x y t') ty e Γ := GX_pure (p_mulX h h1 h2 h3) hr
theorem G_addX {a b : Int} (h : ev e x = some (.int .u64 a)) (h1 : ev e y = some (.int .u64 b)) (h2 : 0 ≤ a + b) (h3 : a + b < 18446744073709551616) (hr : GN P n all K m (push d (.int .u64 (a + b)) e) Γ) : GX P n all K m d (.binOp .add t x y t') ty e Γ := GX_pure (p_addX h h1 h2 h3) hr
/-! ### copy -/
theorem does_copy {td : TypeDesc} {zv : Value} {by_ : Nat} {ag : Bool} {w : World} {tt : TypeId} {b o dl dc sl sc : Nat} {a : Addr} {cur : Array Value} {cs : List Value} (hu : P.underlying t = some (.slice t0)) (T : Ty P t0 td 1 zv by_ ag) (h : ev e x = some (.slice (some ⟨b, o, none⟩) dl dc)) (h1 : ev e y = some (.slice (some a) sl sc)) (hg : w.heap[b]? = some (.cells cur tt (0, 0))) (hn : cs.length = Nat.min sl dl)
    (hsrc : ∀ j v, cs[j]? = some v → w.cell? (a.add j) = some v) (hfit : o + cs.length ≤ cur.size) (ho : ∀ v ∈ cs, v.oneCell' = true) :
    Does P (.call { callee := .builtin .copy, args := #[x, y], argTypes := #[t, t'] }) ty e w (.int .i64 (cs.length : Int)) (w.setRow b (cur.toList.take o ++ cs ++ cur.toList.drop (o + cs.length)).toArray) := by
  intro ρ dst pos af g hρ
  have hs : (P.info? t0).map (·.size) = some 1 := by
    have := T.info
    cases hq : P.info? t0 with
    | none => rw [hq] at this; cases this
    | some i =>
      rw [hq] at this
      simp only [Option.map_some, Option.some.injEq, Prod.mk.injEq] at this
      rw [Option.map_some, this.2.1]
  have hrun := run_copy_row P w t t' ty t0 b o dl dc a sl sc cur tt cs hu hs hg hn hsrc hfit ho
  simp [execOp, resolve, hρ _ _ h, hρ _ _ h1, invoke, builtin, hrun, goInt]
theorem flat_nu (l : List Int) : l.flatMap icell = l.map fun i => nu i := by
  induction l with
  | nil => rfl
  | cons a l ih => rw [List.flatMap_cons, List.map_cons, ih]; rfl
theorem vec_copy {w : World} {tt : TypeId} {b c o : Nat} {l xs : List Int} (h : w.ownsRow 0 tt 1 (.slice (some ⟨b, 0, none⟩) l.length c) l.length (l.flatMap icell)) (hf : o + xs.length ≤ l.length) :
    ∃ cur : Array Value, w.heap[b]? = some (.cells cur tt (0, 0)) ∧ o + xs.length ≤ cur.size ∧ (w.setRow b (cur.toList.take o ++ (xs.map fun i => nu i) ++ cur.toList.drop (o + xs.length)).toArray).ownsRow 0 tt 1 (.slice (some ⟨b, 0, none⟩) l.length c) l.length ((l.take o ++ xs ++ l.drop (o + xs.length)).flatMap icell) := by
  rcases h.2 with ⟨hv, hn⟩ | ⟨g, cap, cur, hv, h0, hcur, hcap, hm, hs, ht⟩
  · cases hv
  · cases hv
    rw [flat_nu, Nat.mul_one] at ht
    have hcl : cur.toList = (l.map fun i => nu i) ++ cur.toList.drop l.length := by rw [← ht, List.take_append_drop]
    have hlen : cur.toList.length = cur.size := Array.length_toList
    generalize cur.toList.drop l.length = rest at hcl
    have e1 : cur.toList.take o ++ (xs.map fun i => nu i) ++ cur.toList.drop (o + xs.length) = ((l.take o ++ xs ++ l.drop (o + xs.length)).map fun i => nu i) ++ rest := by
      rw [hcl, List.take_append_of_le_length (by rw [List.length_map]; omega), List.drop_append_of_le_length (by rw [List.length_map]; omega)]
      simp only [List.map_append, List.map_take, List.map_drop, List.append_assoc]
    have e2 : (l.take o ++ xs ++ l.drop (o + xs.length)).length = l.length := by simp; omega
    refine ⟨cur, hcur, by omega, by rw [flat_nu, List.length_map, e2, Nat.mul_one], .inr ⟨b, c, _, rfl, Nat.zero_le _, setRow_heap w b cur _ tt (0, 0) hcur, hcap, hm, ?_, ?_⟩⟩
    · rw [e1, List.size_toArray, List.length_append, List.length_map, e2, ← hs, ← hlen, hcl, List.length_append, List.length_map]
    · rw [flat_nu, e1, List.toList_toArray, Nat.mul_one, List.take_append_of_le_length (by rw [List.length_map, e2]; exact Nat.le_refl _), List.take_of_length_le (by rw [List.length_map, e2]; exact Nat.le_refl _)]
theorem G_copyI {td : TypeDesc} {zv zv1 : Value} {by_ by1 sz1 : Nat} {ag ag1 : Bool} {b c o dl dc sl sc : Nat} {l xs : List Int} {A : Addr} [U : Ty P t (.slice t0) sz1 zv1 by1 ag1] [T : Ty P t0 td 1 zv by_ ag] (hm : wrOk all m = true) (h : ev e x = some (.slice (some ⟨b, o, none⟩) dl dc)) (h1 : ev e y = some (.slice (some A) sl sc))
    (hU : Upd Γ (.vec icell 1 t0 (some ⟨b, 0, none⟩) c l) (.vec icell 1 t0 (some ⟨b, 0, none⟩) c (l.take o ++ xs ++ l.drop (o + xs.length))) Γ') (hn : xs.length = Nat.min sl dl) (hsrc : Rd Γ icell 1 (some A) xs) (hf : o + xs.length ≤ l.length)
    (hr : GN P n all K m (push d (nu xs.length) e) Γ') : GX P n all K m d (.call { callee := .builtin .copy, args := #[x, y], argTypes := #[t, t'] }) ty e Γ :=
  GX_acts (R := fun v Γ1 => v = nu xs.length ∧ Γ1 = Γ') hm (fun Δ w M => by
    have hb : (Ent.vec icell 1 t0 (some ⟨b, 0, none⟩) c l).ok w := by obtain ⟨R, p, _⟩ := hU.perm; exact M.right.ok _ (p.mem_iff.2 (by simp))
    obtain ⟨cur, hcur, hfit, hown⟩ := vec_copy (xs := xs) hb hf
    have hs := hsrc w M.right
    have hd := does_copy (t' := t') (ty := ty) U.und T h h1 hcur (cs := xs.map fun i => nu i) (by rw [List.length_map]; exact hn) (fun j v hj => by
      rw [List.getElem?_map] at hj
      rcases hg : xs[j]? with _ | z
      · rw [hg] at hj; cases hj
      · rw [hg] at hj
        have hj2 := (List.getElem?_eq_some_iff.1 hg)
        obtain ⟨hlt, he⟩ := hj2
        have := hs.at (i := (j : Int)) (j := 0) (by omega) (by omega) (u := v) (by rw [gt_nat hlt, he]; simpa [icell] using hj)
        rw [add_zero] at this
        simpa [At] using this) (by rw [List.length_map]; exact hfit) (fun v hv => by
      obtain ⟨z, _, rfl⟩ := List.mem_map.1 hv
      rfl)
    rw [List.length_map] at hd
    refine .inl ⟨_, _, hd, Γ', ?_, rfl, rfl⟩
    have hown' : (Ent.vec icell 1 t0 (some ⟨b, 0, none⟩) c (l.take o ++ xs ++ l.drop (o + xs.length))).ok (w.setRow b (cur.toList.take o ++ (xs.map fun i => nu i) ++ cur.toList.drop (o + xs.length)).toArray) := by
      show World.ownsRow _ _ _ _ _ _ _
      rw [show (l.take o ++ xs ++ l.drop (o + xs.length)).length = l.length by simp; omega]
      exact hown
    exact Mem.upd hU M (Chg.setRow w b _ (S := fun k => k = b) rfl) (fun k _ h => by subst h; rfl) hown' fun k hk => .inl hk) fun v Γ1 ⟨e1, e2⟩ => by rw [e1, e2]; exact hr
theorem G_copyIP {j : Nat} {A' : List Fl} {Θ Θ' : Mm} {r : List PStep} {td : TypeDesc} {zv zv1 : Value} {by_ by1 sz1 : Nat} {ag ag1 : Bool} {b c o dl dc sl sc : Nat} {l xs : List Int} {A : Addr} [U : Ty P t (.slice t0) sz1 zv1 by1 ag1] [T : Ty P t0 td 1 zv by_ ag] (h : ev e x = some (.slice (some ⟨b, o, none⟩) dl dc)) (h1 : ev e y = some (.slice (some A) sl sc))
    (hU : Upd Θ (.vec icell 1 t0 (some ⟨b, 0, none⟩) c l) (.vec icell 1 t0 (some ⟨b, 0, none⟩) c (l.take o ++ xs ++ l.drop (o + xs.length))) Θ') (hn : xs.length = Nat.min sl dl) (hsrc : Rd Θ icell 1 (some A) xs) (hf : o + xs.length ≤ l.length)
    (hr : GS P n all K A' Θ' r (push d (nu xs.length) e) Γ) : GX P n all K (.c j A' Θ r) d (.call { callee := .builtin .copy, args := #[x, y], argTypes := #[t, t'] }) ty e Γ := fun pos af g ho hg hd hA =>
  GS_priv (R := fun v Θ1 N => v = nu xs.length ∧ Θ1 = Θ' ∧ N = []) ho hg hd hA (fun Δ w M => by
    have hU' := hU.left (Γ := Γ)
    have hb : (Ent.vec icell 1 t0 (some ⟨b, 0, none⟩) c l).ok w := by obtain ⟨R, p, _⟩ := hU'.perm; exact M.right.ok _ (p.mem_iff.2 (by simp))
    obtain ⟨cur, hcur, hfit, hown⟩ := vec_copy (xs := xs) hb hf
    have hs := hsrc w M.right.left
    have hd := does_copy (t' := t') (ty := ty) U.und T h h1 hcur (cs := xs.map fun i => nu i) (by rw [List.length_map]; exact hn) (fun j v hj => by
      rw [List.getElem?_map] at hj
      rcases hg : xs[j]? with _ | z
      · rw [hg] at hj; cases hj
      · rw [hg] at hj
        have hj2 := (List.getElem?_eq_some_iff.1 hg)
        obtain ⟨hlt, he⟩ := hj2
        have := hs.at (i := (j : Int)) (j := 0) (by omega) (by omega) (u := v) (by rw [gt_nat hlt, he]; simpa [icell] using hj)
        rw [add_zero] at this
        simpa [At] using this) (by rw [List.length_map]; exact hfit) (fun v hv => by
      obtain ⟨z, _, rfl⟩ := List.mem_map.1 hv
      rfl)
    rw [List.length_map] at hd
    refine .inl ⟨_, _, hd, Θ', [], ?_, rfl, rfl, rfl⟩
    have hown' : (Ent.vec icell 1 t0 (some ⟨b, 0, none⟩) c (l.take o ++ xs ++ l.drop (o + xs.length))).ok (w.setRow b (cur.toList.take o ++ (xs.map fun i => nu i) ++ cur.toList.drop (o + xs.length)).toArray) := by
      show World.ownsRow _ _ _ _ _ _ _
      rw [show (l.take o ++ xs ++ l.drop (o + xs.length)).length = l.length by simp; omega]
      exact hown
    exact Mem.upd hU' M (Chg.setRow w b _ (S := fun k => k = b) rfl) (fun k _ h => by subst h; rfl) hown' fun k hk => .inl hk) fun v Θ1 N ⟨e1, e2, e3⟩ => by rw [e1, e2, e3]; exact hr
theorem G_slF {td : TypeDesc} {zv zv1 : Value} {by_ by1 sz1 : Nat} {ag ag1 : Bool} [U : Ty P t (.slice t0) sz1 zv1 by1 ag1] [T : Ty P t0 td 1 zv by_ ag] {b k c i : Nat} {ik : IntKind} (h : ev e x = some (.slice (some ⟨b, 0, none⟩) k c)) (h1 : ev e y = some (.int ik (i : Int))) (h0 : i < k) (h2 : k ≤ c)
    (hr : GN P n all K m (push d (.slice (some ⟨b, i, none⟩) (k - i) (c - i)) e) Γ) : GX P n all K m d (.slice t x (some y) none none) ty e Γ :=
  GX_pure (p_sliceFrom U.und T h h1 h0 h2) (by
    have e : (some (⟨b, 0, none⟩ : Addr)).map (·.add (i * 1)) = some ⟨b, i, none⟩ := by rw [Option.map_some, add_at, Nat.mul_one, Nat.zero_add]
    rw [e]
    exact hr)
theorem G_slT {td : TypeDesc} {zv zv1 : Value} {by_ by1 sz1 : Nat} {sz : Nat} {ag ag1 : Bool} [U : Ty P t (.slice t0) sz1 zv1 by1 ag1] [T : Ty P t0 td sz zv by_ ag] {A : Option Addr} {k c i : Nat} {ik : IntKind} (h : ev e x = some (.slice A k c)) (h1 : ev e y = some (.int ik (i : Int))) (h2 : i ≤ c)
    (hr : GN P n all K m (push d (.slice A i c) e) Γ) : GX P n all K m d (.slice t x none (some y) none) ty e Γ :=
  GX_pure (p_sliceTo U.und T h h1 (by omega) (by omega)) hr
end
theorem RowA.pre {w : World} {A : Option Addr} {xs ys : List Int} (h : RowA w icell 1 A (xs ++ ys)) : RowA w icell 1 A xs := fun k hk => by
  obtain ⟨p, hp, he⟩ := h k (by rw [List.length_append]; omega)
  refine ⟨p, hp, fun j u hj => he j u ?_⟩
  rwa [List.getElem_append_left hk]
theorem Rd.pre {Γ : Mm} {t : TypeId} {A : Option Addr} {c : Nat} {l xs ys : List Int} (hi : In Γ (.vec icell 1 t A c l)) (e : l = xs ++ ys) : Rd Γ icell 1 A xs := fun w M => RowA.pre (ys := ys) (by rw [← e]; exact hi.row M)
theorem Rd.emp {Γ : Mm} {A : Option Addr} : Rd Γ icell 1 A [] := fun w _ => RowA.emp
attribute [local irreducible] WC WL WX WS WO OX Does DoesU Enters CV Pure thenQ blockQ retQ Wants retQC GC GL GS GX RdB thenG blockG retG Rd At gt CVN CVM
set_option maxRecDepth 100000
theorem Mul64_cv {w : World} {k : Int} (h0 : 0 ≤ k) (h1 : k < 4294967296) : CVN Tryd.prog 95 [.int .u64 1, .int .u64 k] w fun v N => N = [] ∧ ∃ hi lo : Int, v = .tuple #[.int .u64 hi, .int .u64 lo] ∧ hi = 0 ∧ lo = k := by
  refine CVN.enter 51 [4, 5] Tryd.func95 rfl rfl rfl (by decide) rfl ?_
  repeat' (first
|(apply G_shrX;eq_refl;eq_refl;omega;omega)
|(apply G_andX;eq_refl;eq_refl;omega;omega)
|(apply G_mulX;eq_refl;eq_refl;omega;omega)
|(apply G_addX;eq_refl;eq_refl;omega;omega)
|(apply GC_seqK;intro K hK)
|(apply hK;clear hK K)
|(apply GC_region)
|(apply GL_nil)
|(apply thenG_normal)
|(apply GC_ret)
|(apply retG2;eq_refl;eq_refl)
|(apply GL_on;eq_refl;eq_refl)
|(apply G_pv;eq_refl;first|exact trivial|omega))
  exact ⟨[], (by repeat first | exact Wk.nil | exact Wk.refl | (apply Wk.cons; (focus ((repeat first | exact Rem.here | apply Rem.there | apply Rem.skip); done))) | apply Wk.nilv | apply Wk.last | apply Wk.drop), rfl, _, _, rfl, by omega, by omega⟩
theorem Mul_cv {w : World} {k : Int} (h0 : 0 ≤ k) (h1 : k < 4294967296) : CVN Tryd.prog 76 [.int .u64 1, .int .u64 k] w fun v N => N = [] ∧ v = .tuple #[.int .u64 0, .int .u64 k] := by
  have hm : ∀ w', CVN Tryd.prog 95 [.int .u64 1, .int .u64 k] w' _ := fun w' => Mul64_cv h0 h1
  refine CVN.enter 30 [4, 5] Tryd.func76 rfl rfl rfl (by decide) rfl ?_
  repeat' (first
|(apply G_call;eq_refl;eq_refl;(exact fun w' _ => hm w');rintro _ _ ⟨rfl, hi, lo, rfl, rfl, rfl⟩)
|(apply GC_seqK;intro K hK)
|(apply hK;clear hK K)
|(apply GC_region)
|(apply GL_nil)
|(apply thenG_normal)
|(apply GC_ret)
|(apply GC_skip)
|(apply GC_if_false;eq_refl)
|(apply retG2;eq_refl;eq_refl)
|(apply GL_on;eq_refl;eq_refl)
|(apply G_pv;eq_refl;first|exact trivial|omega))
  exact ⟨[], (by repeat first | exact Wk.nil | exact Wk.refl | (apply Wk.cons; (focus ((repeat first | exact Rem.here | apply Rem.there | apply Rem.skip); done))) | apply Wk.nilv | apply Wk.last | apply Wk.drop), rfl, rfl⟩
theorem rep_copy {v : Int} {q p : Nat} (h : p ≤ q) : (List.replicate p v ++ List.replicate (q - p) 0).take p ++ List.replicate (min p (q - p)) v ++ (List.replicate p v ++ List.replicate (q - p) (0 : Int)).drop (p + (List.replicate (min p (q - p)) v).length) = List.replicate (p + min p (q - p)) v ++ List.replicate (q - (p + min p (q - p))) 0 := by
  rw [List.take_append_of_le_length (by rw [List.length_replicate]; exact Nat.le_refl _), List.take_of_length_le (by rw [List.length_replicate]; exact Nat.le_refl _), List.length_replicate]
  rw [List.drop_append, List.length_replicate, List.drop_eq_nil_of_le (by rw [List.length_replicate]; omega), List.nil_append, List.drop_replicate, List.replicate_append_replicate]
  congr 2
  omega
set_option maxHeartbeats 800000 in
theorem Repeat_cv {w : World} {A : Addr} {k : Nat} {v : Int} {q : Nat} (hA : RowA w icell 1 (some A) [v]) (h1 : q ≤ 1000000) : CVN Tryd.prog 49 [.slice (some A) 1 k, nu q] w fun r N => ∃ b, r = .slice (some ⟨b, 0, none⟩) (List.replicate q v).length q ∧ N = [.vec icell 1 3 (some ⟨b, 0, none⟩) q (List.replicate q v)] := by
  have hm : ∀ w', CVN Tryd.prog 76 [.int .u64 1, .int .u64 (q : Int)] w' _ := fun w' => Mul_cv (by omega) (by omega)
  refine CVN.enter 48 [4] Tryd.func49 rfl rfl rfl (by decide) rfl ?_
  rcases q with _ | q
  · repeat' (first
|(apply G_uintX;eq_refl;omega;omega)
|(apply G_ofuX;eq_refl;omega;omega)
|(apply G_call;eq_refl;eq_refl;(exact fun w' _ => hm w');rintro _ _ ⟨rfl, rfl⟩)
|(apply G_makeI icell;eq_refl;eq_refl;omega;eq_refl;omega;decide;intro b)
|(apply G_copyI (xs := []);(first|exact wr_p|kernel_rfl);eq_refl;eq_refl;(repeat first|exact Upd.here|apply Upd.there|apply Upd.skip);decide;(exact Rd.emp);exact Nat.zero_le _)
|(apply GC_seqK;intro K hK)
|(apply hK;clear hK K)
|(apply GC_block)
|(apply GC_region)
|(apply GL_nil)
|(apply thenG_normal)
|(apply GC_skip)
|(apply GC_if_false;eq_refl)
|(apply GL_on;eq_refl;eq_refl)
|(apply G_pv;eq_refl;first|exact trivial|omega)
|(apply G_cmpF;eq_refl;eq_refl;omega)
|(apply G_len;eq_refl))
    refine GC_loopK [7] (fun p : Nat => [(8, nu p)]) (fun p => [.vec icell 1 3 (some ⟨b, 0, none⟩) 0 [], .old w none_]) (fun p => p = 0) (fun p => p) 0 (by repeat first | exact Pick.nil | (apply Pick.cons; eq_refl)) (by repeat first | exact trivial | refine ⟨rfl, ?_⟩) (by repeat first | exact Wk.nil | exact Wk.refl | (apply Wk.cons; (focus ((repeat first | exact Rem.here | apply Rem.there | apply Rem.skip); done))) | apply Wk.nilv | apply Wk.last | apply Wk.drop) rfl ?_
    rintro p rfl
    repeat' (first
|(apply GC_seqK;intro K hK)
|(apply hK;clear hK K)
|(clear hK K;apply hK;clear hK K)
|(apply GC_region)
|(apply GL_nil)
|(apply thenG_normal)
|(apply thenG_exit)
|(apply blockG_hit)
|(apply GC_ret)
|(apply GC_exit)
|(apply GC_if_false;eq_refl)
|(apply retG1;eq_refl)
|(apply GL_on;eq_refl;eq_refl)
|(apply G_pv;eq_refl;first|exact trivial|omega)
|(apply G_cmpF;eq_refl;eq_refl;omega)
|(apply G_len;eq_refl))
    exact ⟨[.vec icell 1 3 (some ⟨b, 0, none⟩) 0 []], (by repeat first | exact Wk.nil | exact Wk.refl | (apply Wk.cons; (focus ((repeat first | exact Rem.here | apply Rem.there | apply Rem.skip); done))) | apply Wk.nilv | apply Wk.last | apply Wk.drop), b, rfl, rfl⟩
  · repeat' (first
|(apply G_uintX;eq_refl;omega;omega)
|(apply G_ofuX;eq_refl;omega;omega)
|(apply G_call;eq_refl;eq_refl;(exact fun w' _ => hm w');rintro _ _ ⟨rfl, rfl⟩)
|(apply G_makeI icell;eq_refl;eq_refl;omega;eq_refl;omega;decide;intro b)
|(apply G_copyI (xs := [v]);(first|exact wr_p|kernel_rfl);eq_refl;eq_refl;(repeat first|exact Upd.here|apply Upd.there|apply Upd.skip);(exact (Nat.min_eq_left (Nat.le_add_left 1 q)).symm);(apply Rd.old;(repeat first|exact In.here|apply In.there|apply In.skip);exact hA);(rw [List.length_replicate];exact Nat.le_add_left 1 q))
|(apply GC_seqK;intro K hK)
|(apply hK;clear hK K)
|(apply GC_block)
|(apply GC_region)
|(apply GL_nil)
|(apply thenG_normal)
|(apply GC_skip)
|(apply GC_if_false;eq_refl)
|(apply GL_on;eq_refl;eq_refl)
|(apply G_pv;eq_refl;first|exact trivial|omega)
|(apply G_cmpF;eq_refl;eq_refl;omega)
|(apply G_len;eq_refl))
    refine GC_loopK [7] (fun p : Nat => [(8, nu p)]) (fun p => [.vec icell 1 3 (some ⟨b, 0, none⟩) (q + 1) (List.replicate p v ++ List.replicate (q + 1 - p) 0), .old w none_]) (fun p => 1 ≤ p ∧ p ≤ q + 1) (fun p => q + 1 - p) 1 (by repeat first | exact Pick.nil | (apply Pick.cons; eq_refl)) (by repeat first | exact trivial | refine ⟨rfl, ?_⟩) (by repeat first | exact Wk.nil | exact Wk.refl | (apply Wk.cons; (focus ((repeat first | exact Rem.here | apply Rem.there | apply Rem.skip); done))) | apply Wk.nilv | apply Wk.last | apply Wk.drop) ⟨Nat.le_refl _, by omega⟩ ?_
    rintro p ⟨p1, p2⟩
    rcases Nat.lt_or_ge p (q + 1) with hlt | hge
    · have e9 := rep_copy (v := v) (q := q + 1) (p := p) (by omega)
      have hlen : (List.replicate (min p (q + 1 - p)) v).length = min p (q + 1 - p) := List.length_replicate
      have hx : List.replicate p v ++ List.replicate (q + 1 - p) 0 = List.replicate (min p (q + 1 - p)) v ++ (List.replicate (p - min p (q + 1 - p)) v ++ List.replicate (q + 1 - p) 0) := by rw [← List.append_assoc, List.replicate_append_replicate, show min p (q + 1 - p) + (p - min p (q + 1 - p)) = p by omega]
      repeat' (first
|(apply GC_drawsP (id := 9) (C := [.vec icell 1 3 (some ⟨b, 0, none⟩) (q + 1) (List.replicate p v ++ List.replicate (q + 1 - p) 0)]) [.q 0, .q 1, .q 2, .q 3, .q 4, .q 5, .q 6, .c 7, .q 8, .q 9];exact mixed;kernel_rfl;kernel_rfl;(repeat first|exact Rems.nil|(apply Rems.cons;(focus ((repeat first|exact Rem.here|apply Rem.there|apply Rem.skip);done)))))
|(apply GS_nilP)
|(apply G_copyIP (xs := List.replicate (min p (q + 1 - p)) v);eq_refl;eq_refl;(repeat first|exact Upd.here|apply Upd.there|apply Upd.skip);(rw [List.length_replicate];rfl);(apply Rd.pre;(repeat first|exact In.here|apply In.there|apply In.skip);exact hx);(simp only [List.length_replicate, List.length_append];omega))
|(apply G_slF;eq_refl;eq_refl;(show p < q + 1;omega);exact Nat.le_refl _)
|(apply G_slT;eq_refl;eq_refl;(show p ≤ q + 1;omega))
|(apply GC_seqK;intro K hK)
|(apply hK;clear hK K)
|(apply GC_block)
|(apply GC_region)
|(apply GL_nil)
|(apply thenG_normal)
|(apply blockG_normal)
|(apply GC_skip)
|(apply GC_if_true;eq_refl)
|(apply GL_on;eq_refl;eq_refl)
|(apply GS_qon;eq_refl;eq_refl;eq_refl;eq_refl)
|(apply GS_con;eq_refl;eq_refl;eq_refl;eq_refl)
|(apply G_pv;eq_refl;first|exact trivial|omega)
|(apply G_cmpT;eq_refl;eq_refl;omega)
|(apply G_len;eq_refl))
      rw [e9, hlen]
      exact ⟨p + min p (q + 1 - p), (by repeat first | exact trivial | refine ⟨rfl, ?_⟩), (by repeat first | exact Wk.nil | exact Wk.refl | (apply Wk.cons; (focus ((repeat first | exact Rem.here | apply Rem.there | apply Rem.skip); done))) | apply Wk.nilv | apply Wk.last | apply Wk.drop), by omega, by omega⟩
    · obtain rfl : p = q + 1 := by omega
      rw [Nat.sub_self, List.replicate_zero, List.append_nil]
      repeat' (first
|(apply GC_seqK;intro K hK)
|(apply hK;clear hK K)
|(clear hK K;apply hK;clear hK K)
|(apply GC_region)
|(apply GL_nil)
|(apply thenG_normal)
|(apply thenG_exit)
|(apply blockG_hit)
|(apply GC_ret)
|(apply GC_exit)
|(apply GC_if_false;eq_refl)
|(apply retG1;eq_refl)
|(apply GL_on;eq_refl;eq_refl)
|(apply G_pv;eq_refl;first|exact trivial|omega)
|(apply G_cmpF;eq_refl;eq_refl;omega)
|(apply G_len;eq_refl))
      refine ⟨[.vec icell 1 3 (some ⟨b, 0, none⟩) (q + 1) (List.replicate (q + 1) v)], (by repeat first | exact Wk.nil | exact Wk.refl | (apply Wk.cons; (focus ((repeat first | exact Rem.here | apply Rem.there | apply Rem.skip); done))) | apply Wk.nilv | apply Wk.last | apply Wk.drop), b, ?_, rfl⟩
      rw [List.length_replicate]
      rfl
end SC
end Go.Proofs.YtclihihdgodloaaDoor
end
section
/- tern: of, isRow, values, next. -/
set_option linter.unusedVariables false
set_option linter.unusedSimpArgs false
namespace Go.Proofs.YtclihihdgodloaaDoor
namespace SC
open Go.Proofs
/-- What the tables hold. -/
structure TabG (w : World) : Prop where
  con : ∀ i : Nat, i < 3 → w.cell? ⟨0, i, none⟩ = some (nu (tnot i))
  both : ∀ i j : Nat, i < 3 → j < 3 → w.cell? ⟨1, i * 3 + j, none⟩ = some (nu (tand i j))
theorem TabG.chg {w w' : World} (H : TabG w) (hc : Chg w w' none_) : TabG w' := ⟨fun i hi => cel_chg (H.con i hi) hc id, fun i j hi hj => cel_chg (H.both i j hi hj) hc id⟩
theorem TabG.con' {w : World} (H : TabG w) {x : Int} (h : Is3 x) : w.cell? ⟨0, 0 + x.toNat * 1, none⟩ = some (nu (tnot x)) := by
  unfold Is3 at h
  have := H.con x.toNat (by omega)
  rwa [show ((x.toNat : Nat) : Int) = x by omega, show x.toNat = 0 + x.toNat * 1 by omega] at this
theorem TabG.both' {w : World} (H : TabG w) {x y : Int} (h : Is3 x) (h2 : Is3 y) : w.cell? ⟨1, 0 + x.toNat * 3 + y.toNat * 1, none⟩ = some (nu (tand x y)) := by
  unfold Is3 at h h2
  have := H.both x.toNat y.toNat (by omega) (by omega)
  rwa [show ((x.toNat : Nat) : Int) = x by omega, show ((y.toNat : Nat) : Int) = y by omega, show x.toNat * 3 + y.toNat = 0 + x.toNat * 3 + y.toNat * 1 by omega] at this
section
variable {P : Program} {n : Nat} {all : List Oper} {K : Env → Mm → Prop} {m : Md} {e : Env} {Γ Γ' : Mm} {d : Option Tmp} {ty t t' t0 : TypeId} {x y : Operand}
theorem G_ixP {td : TypeDesc} {zv zv1 : Value} {by_ by1 sz1 sz : Nat} {ag ag1 : Bool} {b o mm : Nat} {i : Int} {k : IntKind} [U : Ty P t (.array mm t0) sz1 zv1 by1 ag1] [T : Ty P t0 td sz zv by_ ag] (h : ev e x = some (.pointer (some ⟨b, o, none⟩))) (h1 : ev e y = some (.int k i)) (h0 : 0 ≤ i) (h2 : i < mm)
    (hr : GN P n all K m (push d (.pointer (some ⟨b, o + i.toNat * sz, none⟩)) e) Γ) : GX P n all K m d (.indexAddr t x y) ty e Γ := GX_def (fun w M => does_indexA h h1 h0 h2) hr
end
attribute [local irreducible] WC WL WX WS WO OX Does DoesU Enters CV Pure thenQ blockQ retQ Wants retQC GC GL GS GX RdB thenG blockG retG Rd At gt CVN CVM
set_option maxRecDepth 100000
theorem of3_cv {w : World} {A : Option Addr} {k c : Nat} {v : List Int} {l : Int} (G : TabG w) (hA : RowA w icell 1 A v) (hk : k = v.length) (hv : Row3 v) (h0 : 0 ≤ l / 2) (h1 : l / 2 < v.length) (hl : v.length ≤ 1000000) : CVN Tryd.prog 43 [.slice A k c, nu l] w fun r N => N = [] ∧ r = nu (tl v l) := by
  have h3 := hv.gt h0 h1
  have hc := G.con' h3
  unfold tl
  have h3' := h3
  unfold Is3 at h3'
  refine CVN.enter 20 [4] Tryd.func43 rfl rfl rfl (by decide) rfl ?_
  by_cases ho : l % 2 = 1
  · rw [if_pos ho]
    repeat' (first
|(apply G_ixP;eq_refl;eq_refl;omega;omega)
|(apply G_ldC;eq_refl;(repeat first|exact In.here|apply In.there|apply In.skip);exact hc)
|(apply GC_seqK;intro K hK)
|(apply hK;clear hK K)
|(apply GC_region)
|(apply GL_nil)
|(apply thenG_normal)
|(apply thenG_ret)
|(apply GC_ret)
|(apply GC_if_true;eq_refl)
|(apply retG1;eq_refl)
|(apply GL_on;eq_refl;eq_refl)
|(apply G_pv;eq_refl;first|exact trivial|omega)
|(apply G_rd;eq_refl;(first|(apply Rd.own;(repeat first|exact In.here|apply In.there|apply In.skip);infer_instance)|(apply Rd.old;(repeat first|exact In.here|apply In.there|apply In.skip);assumption)|(apply Rd.oldR;(repeat first|exact In.here|apply In.there|apply In.skip);assumption)|exact Rd.nil|assumption);(case ih => infer_instance);omega;omega;eq_refl)
|(apply G_cmpT;eq_refl;eq_refl;omega)
|(apply G_ix;eq_refl;eq_refl;(first|(apply Rd.own;(repeat first|exact In.here|apply In.there|apply In.skip);infer_instance)|(apply Rd.old;(repeat first|exact In.here|apply In.there|apply In.skip);assumption)|(apply Rd.oldR;(repeat first|exact In.here|apply In.there|apply In.skip);assumption)|exact Rd.nil|assumption);(first|eq_refl|omega);omega;omega))
    exact ⟨[], (by repeat first | exact Wk.nil | exact Wk.refl | (apply Wk.cons; (focus ((repeat first | exact Rem.here | apply Rem.there | apply Rem.skip); done))) | apply Wk.nilv | apply Wk.last | apply Wk.drop), rfl, rfl⟩
  · rw [if_neg ho]
    repeat' (first
|(apply GC_seqK;intro K hK)
|(apply hK;clear hK K)
|(apply GC_region)
|(apply GL_nil)
|(apply thenG_normal)
|(apply GC_ret)
|(apply GC_skip)
|(apply GC_if_false;eq_refl)
|(apply retG1;eq_refl)
|(apply GL_on;eq_refl;eq_refl)
|(apply G_pv;eq_refl;first|exact trivial|omega)
|(apply G_rd;eq_refl;(first|(apply Rd.own;(repeat first|exact In.here|apply In.there|apply In.skip);infer_instance)|(apply Rd.old;(repeat first|exact In.here|apply In.there|apply In.skip);assumption)|(apply Rd.oldR;(repeat first|exact In.here|apply In.there|apply In.skip);assumption)|exact Rd.nil|assumption);(case ih => infer_instance);omega;omega;eq_refl)
|(apply G_cmpF;eq_refl;eq_refl;omega)
|(apply G_ix;eq_refl;eq_refl;(first|(apply Rd.own;(repeat first|exact In.here|apply In.there|apply In.skip);infer_instance)|(apply Rd.old;(repeat first|exact In.here|apply In.there|apply In.skip);assumption)|(apply Rd.oldR;(repeat first|exact In.here|apply In.there|apply In.skip);assumption)|exact Rd.nil|assumption);(first|eq_refl|omega);omega;omega))
    exact ⟨[], (by repeat first | exact Wk.nil | exact Wk.refl | (apply Wk.cons; (focus ((repeat first | exact Rem.here | apply Rem.there | apply Rem.skip); done))) | apply Wk.nilv | apply Wk.last | apply Wk.drop), rfl, rfl⟩
theorem isRow1_cv {w : World} {x : Int} : CVN Tryd.prog 86 [nu x] w fun v N => N = [] ∧ v = .bool (!(decide (0 ≤ x) && decide (x ≤ 2))) := by
  refine CVN.enter 9 [2] Tryd.func86 rfl rfl rfl (by decide) rfl ?_
  by_cases h0 : x < 0
  · rw [decide_eq_false (by omega : ¬ 0 ≤ x)]
    repeat' (first
|(apply GC_seqK;intro K hK)
|(apply hK;clear hK K)
|(apply GC_region)
|(apply GL_nil)
|(apply thenG_normal)
|(apply GC_ret)
|(apply retG1;eq_refl)
|(apply GL_on;eq_refl;eq_refl)
|(apply GL_off;eq_refl;eq_refl)
|(apply G_pv;eq_refl;first|exact trivial|omega)
|(apply G_cmpT;eq_refl;eq_refl;omega))
    exact ⟨[], (by repeat first | exact Wk.nil | exact Wk.refl | (apply Wk.cons; (focus ((repeat first | exact Rem.here | apply Rem.there | apply Rem.skip); done))) | apply Wk.nilv | apply Wk.last | apply Wk.drop), rfl, rfl⟩
  · rw [decide_eq_true (by omega : 0 ≤ x)]
    by_cases h1 : 2 < x
    · rw [decide_eq_false (by omega : ¬ x ≤ 2)]
      repeat' (first
|(apply GC_seqK;intro K hK)
|(apply hK;clear hK K)
|(apply GC_region)
|(apply GL_nil)
|(apply thenG_normal)
|(apply GC_ret)
|(apply retG1;eq_refl)
|(apply GL_on;eq_refl;eq_refl)
|(apply G_pv;eq_refl;first|exact trivial|omega)
|(apply G_cmpT;eq_refl;eq_refl;omega)
|(apply G_cmpF;eq_refl;eq_refl;omega))
      exact ⟨[], (by repeat first | exact Wk.nil | exact Wk.refl | (apply Wk.cons; (focus ((repeat first | exact Rem.here | apply Rem.there | apply Rem.skip); done))) | apply Wk.nilv | apply Wk.last | apply Wk.drop), rfl, rfl⟩
    · rw [decide_eq_true (by omega : x ≤ 2)]
      repeat' (first
|(apply GC_seqK;intro K hK)
|(apply hK;clear hK K)
|(apply GC_region)
|(apply GL_nil)
|(apply thenG_normal)
|(apply GC_ret)
|(apply retG1;eq_refl)
|(apply GL_on;eq_refl;eq_refl)
|(apply G_pv;eq_refl;first|exact trivial|omega)
|(apply G_cmpF;eq_refl;eq_refl;omega))
      exact ⟨[], (by repeat first | exact Wk.nil | exact Wk.refl | (apply Wk.cons; (focus ((repeat first | exact Rem.here | apply Rem.there | apply Rem.skip); done))) | apply Wk.nilv | apply Wk.last | apply Wk.drop), rfl, rfl⟩
/-- Are so many values? -/
def rowB (l : List Int) (k : Nat) : Bool := decide (l.length = k) && l.all fun x => decide (0 ≤ x) && decide (x ≤ 2)
theorem rowB_iff {l : List Int} {k : Nat} : rowB l k = true ↔ l.length = k ∧ Row3 l := by
  unfold rowB Row3 Is3
  rw [Bool.and_eq_true, decide_eq_true_iff, List.all_eq_true]
  simp only [Bool.and_eq_true, decide_eq_true_iff]
theorem isRow_cv {w : World} {A : Option Addr} {k : Nat} {l : List Int} {q : Nat} (hA : RowA w icell 1 A l) (hl : l.length ≤ 9223372036854775807) : CVN Tryd.prog 61 [.slice A l.length k, nu q] w fun v N => N = [] ∧ v = .bool (rowB l q) := by
  have hcf : ∀ Γ, In Γ (.old w none_) → ∀ w', Mem w' Γ → CVN Tryd.prog 41 [.slice A l.length k, .func (.func 86) #[] #[]] w' _ := fun Γ ho w' M => containsFunc_cv (f := 86) (cap := #[]) (p := fun x => !(decide (0 ≤ x) && decide (x ≤ 2))) (k := k) (hA.chg (ho.old M)) (by omega) fun x hx w2 hc => isRow1_cv
  refine CVN.enter 14 [4] Tryd.func61 rfl rfl rfl (by decide) rfl ?_
  by_cases hq : l.length = q
  · repeat' (first
|(apply G_call;eq_refl;eq_refl;(apply hcf;(repeat first|exact In.here|apply In.there|apply In.skip));rintro _ _ ⟨rfl, rfl⟩)
|(apply GC_seqK;intro K hK)
|(apply hK;clear hK K)
|(apply GC_region)
|(apply GL_nil)
|(apply thenG_normal)
|(apply GC_ret)
|(apply retG1;eq_refl)
|(apply GL_on;eq_refl;eq_refl)
|(apply G_pv;eq_refl;first|exact trivial|omega)
|(apply G_cmpT;eq_refl;eq_refl;omega)
|(apply G_len;eq_refl))
    refine ⟨[], (by repeat first | exact Wk.nil | exact Wk.refl | (apply Wk.cons; (focus ((repeat first | exact Rem.here | apply Rem.there | apply Rem.skip); done))) | apply Wk.nilv | apply Wk.last | apply Wk.drop), rfl, ?_⟩
    unfold rowB
    rw [decide_eq_true hq, Bool.true_and, List.all_eq_not_any_not]
  · repeat' (first
|(apply GC_seqK;intro K hK)
|(apply hK;clear hK K)
|(apply GC_region)
|(apply GL_nil)
|(apply thenG_normal)
|(apply GC_ret)
|(apply retG1;eq_refl)
|(apply GL_on;eq_refl;eq_refl)
|(apply GL_off;eq_refl;eq_refl)
|(apply G_pv;eq_refl;first|exact trivial|omega)
|(apply G_cmpF;eq_refl;eq_refl;omega)
|(apply G_len;eq_refl))
    refine ⟨[], (by repeat first | exact Wk.nil | exact Wk.refl | (apply Wk.cons; (focus ((repeat first | exact Rem.here | apply Rem.there | apply Rem.skip); done))) | apply Wk.nilv | apply Wk.last | apply Wk.drop), rfl, ?_⟩
    unfold rowB
    rw [decide_eq_false hq]
    rfl
end SC
end Go.Proofs.YtclihihdgodloaaDoor
end
section
/- tern: values, next, ready, looked, Values, Step. -/
set_option linter.unusedVariables false
set_option linter.unusedSimpArgs false
namespace Go.Proofs.YtclihihdgodloaaDoor
namespace SC
open Go.Proofs
theorem tB_of {c : Circ} {q : Nat} (hq : c.max = (q : Int)) : (List.replicate (q + 1) (2 : Int)).set (0 : Int).toNat 0 = tB c := by
  unfold tB
  rw [hq]
  rfl
attribute [local irreducible] WC WL WX WS WO OX Does DoesU Enters CV Pure thenQ blockQ retQ Wants retQC GC GL GS GX RdB thenG blockG retG Rd At gt CVN CVM
set_option maxRecDepth 100000
set_option maxHeartbeats 1600000 in
theorem valuesT_cv {w : World} {c : Circ} {h js : Hd} {p : Nat} {B S T : Option Addr} {k1 k2 k3 : Nat} {s r : List Int} (G : TabG w) (R : Right c) (hP : Blk w p 103 (rcells c h B k1)) (H : CirAt w c h js) (hB : RowA w icell 1 B (ordM c)) (hS : RowA w icell 1 S s) (hT : RowA w icell 1 T r) (hs : s.length = c.latches.length) (hr : r.length = c.inputs.length) (h3 : Row3 s) (h4 : Row3 r) :
    CVN Tryd.prog 45 [pt p, .slice S s.length k2, .slice T r.length k3] w fun v N => ∃ A' k', v = .slice A' (valT c s r).length k' ∧ N = [.vec icell 1 3 A' k' (valT c s r)] := by
  have hLat := H.latches
  have hInp := H.inputs
  have hAnd := H.ands
  have m0 := R.m0
  have m1 := R.m1
  have n1 := R.nIn
  have n2 := R.nLat
  have n3 := R.nAnd
  have n4 := R.ordLen
  obtain ⟨q, hq⟩ : ∃ q : Nat, c.max = (q : Int) := ⟨c.max.toNat, by omega⟩
  have hRep : ∀ Γ b, In Γ (.box b 3 [nu 2]) → ∀ w', Mem w' Γ → CVN Tryd.prog 49 [.slice (some ⟨b, 0, none⟩) 1 1, nu (c.max + 1)] w' fun r N => ∃ b, r = .slice (some ⟨b, 0, none⟩) (q + 1) (q + 1) ∧ N = [.vec icell 1 3 (some ⟨b, 0, none⟩) (q + 1) (List.replicate (q + 1) 2)] := fun Γ b hi w' M => by
    have := Repeat_cv (k := 1) (v := 2) (q := q + 1) (RowA.blk (l := [2]) (fun _ => rfl) (hi.box M)) (by omega)
    rw [List.length_replicate] at this
    rwa [hq]
  have hrl : (List.replicate (q + 1) (2 : Int)).length = q + 1 := List.length_replicate
  refine CVN.enter 101 [6] Tryd.func45 rfl rfl rfl (by decide) rfl ?_
  repeat' (first
|(apply G_call;eq_refl;eq_refl;(apply hRep;(repeat first|exact In.here|apply In.there|apply In.skip));rintro _ _ ⟨b1, rfl, rfl⟩)
|(apply GC_seqK;intro K hK)
|(apply hK;clear hK K)
|(apply GC_block)
|(apply GC_region)
|(apply GL_nil)
|(apply thenG_normal)
|(apply GL_on;eq_refl;eq_refl)
|(apply G_pv;eq_refl;first|exact trivial|omega)
|(apply G_field;eq_refl)
|(apply G_ldO;eq_refl;(repeat first|exact In.here|apply In.there|apply In.skip);assumption;eq_refl)
|(apply G_len;eq_refl)
|(apply G_ix;eq_refl;eq_refl;(first|(apply Rd.own;(repeat first|exact In.here|apply In.there|apply In.skip);infer_instance)|(apply Rd.old;(repeat first|exact In.here|apply In.there|apply In.skip);assumption)|(apply Rd.oldR;(repeat first|exact In.here|apply In.there|apply In.skip);assumption)|exact Rd.nil|assumption);(first|eq_refl|omega);omega;omega)
|(apply G_stV;(first|exact wr_p|kernel_rfl);eq_refl;eq_refl;eq_refl;eq_refl;(repeat first|exact Upd.here|apply Upd.there|apply Upd.skip);infer_instance;infer_instance;eq_refl;omega;(try simp only [List.length_set, List.length_append, List.length_replicate]);omega)
|(apply G_new (fun b => .slice (some ⟨b, 0, none⟩) 1 1);eq_refl;(intro _;apply buildS22_1 <;> eq_refl);intro _))
  rw [tB_of hq]
  have hb0 := tB_len (c := c) m0
  refine GC_loopK [0, 1, 2, 7, 29, 30] (fun s : Nat × List Int => [(31, nu s.1)]) (fun s => [.vec icell 1 3 (some ⟨b1, 0, none⟩) (q + 1) s.2, .old w none_]) (fun s => s.1 ≤ c.inputs.length ∧ s.2 = tIn c r s.1) (fun s => c.inputs.length - s.1) (0, _) (by repeat first | exact Pick.nil | (apply Pick.cons; eq_refl)) (by repeat first | exact trivial | refine ⟨rfl, ?_⟩) (by repeat first | exact Wk.nil | exact Wk.refl | (apply Wk.cons; (focus ((repeat first | exact Rem.here | apply Rem.there | apply Rem.skip); done))) | apply Wk.nilv | apply Wk.last | apply Wk.drop) ⟨Nat.zero_le _, rfl⟩ ?_
  rintro ⟨i, v⟩ ⟨hi, hv⟩
  dsimp only at hi hv ⊢
  have hlen : v.length = (c.max + 1).toNat := by rw [hv, tIn_len m0]
  rcases Nat.lt_or_ge i c.inputs.length with hlt | hge
  · have hd := R.inp (gt_mem (l := c.inputs) (i := (i : Int)) (by omega) (by omega))
    have hst := tIn_succ c r i
    rw [← hv] at hst
    unfold defR at hd
    repeat' (first
|(apply GC_seqK;intro K hK)
|(apply hK;clear hK K)
|(apply GC_block)
|(apply GC_region)
|(apply GL_nil)
|(apply thenG_normal)
|(apply blockG_normal)
|(apply GC_skip)
|(apply GC_if_true;eq_refl)
|(apply GL_on;eq_refl;eq_refl)
|(apply G_pv;eq_refl;first|exact trivial|omega)
|(apply G_rd;eq_refl;(first|(apply Rd.own;(repeat first|exact In.here|apply In.there|apply In.skip);infer_instance)|(apply Rd.old;(repeat first|exact In.here|apply In.there|apply In.skip);assumption)|(apply Rd.oldR;(repeat first|exact In.here|apply In.there|apply In.skip);assumption)|exact Rd.nil|assumption);(case ih => infer_instance);omega;omega;eq_refl)
|(apply G_cmpT;eq_refl;eq_refl;omega)
|(apply G_ix;eq_refl;eq_refl;(first|(apply Rd.own;(repeat first|exact In.here|apply In.there|apply In.skip);infer_instance)|(apply Rd.old;(repeat first|exact In.here|apply In.there|apply In.skip);assumption)|(apply Rd.oldR;(repeat first|exact In.here|apply In.there|apply In.skip);assumption)|exact Rd.nil|assumption);(first|eq_refl|omega);omega;omega)
|(apply G_stV;(first|exact wr_p|kernel_rfl);eq_refl;eq_refl;eq_refl;eq_refl;(repeat first|exact Upd.here|apply Upd.there|apply Upd.skip);infer_instance;infer_instance;eq_refl;omega;(try simp only [List.length_set, List.length_append, List.length_replicate]);omega))
    exact ⟨(i + 1, _), (by repeat first | exact trivial | refine ⟨rfl, ?_⟩), (by repeat first | exact Wk.nil | exact Wk.refl | (apply Wk.cons; (focus ((repeat first | exact Rem.here | apply Rem.there | apply Rem.skip); done))) | apply Wk.nilv | apply Wk.last | apply Wk.drop), ⟨hlt, hst.symm⟩, by simp only; omega⟩
  · obtain rfl : i = c.inputs.length := by omega
    have hvr : Row3 v := by rw [hv]; exact tIn_row h4 _ (by omega)
    repeat' (first
|(apply GC_seqK;intro K hK)
|(apply hK;clear hK K)
|(clear hK K;apply hK;clear hK K)
|(apply GC_block)
|(apply GC_region)
|(apply GL_nil)
|(apply thenG_normal)
|(apply thenG_exit)
|(apply blockG_hit)
|(apply GC_exit)
|(apply GC_if_false;eq_refl)
|(apply GL_on;eq_refl;eq_refl)
|(apply G_pv;eq_refl;first|exact trivial|omega)
|(apply G_field;eq_refl)
|(apply G_ldO;eq_refl;(repeat first|exact In.here|apply In.there|apply In.skip);assumption;eq_refl)
|(apply G_cmpF;eq_refl;eq_refl;omega)
|(apply G_len;eq_refl))
    refine GC_loopK [0, 1, 2, 7, 49, 50] (fun s : Nat × List Int => [(51, nu s.1)]) (fun s => [.vec icell 1 3 (some ⟨b1, 0, none⟩) (q + 1) s.2, .old w none_]) (fun t => t.1 ≤ c.latches.length ∧ t.2 = tLt c s v t.1) (fun s => c.latches.length - s.1) (0, _) (by repeat first | exact Pick.nil | (apply Pick.cons; eq_refl)) (by repeat first | exact trivial | refine ⟨rfl, ?_⟩) (by repeat first | exact Wk.nil | exact Wk.refl | (apply Wk.cons; (focus ((repeat first | exact Rem.here | apply Rem.there | apply Rem.skip); done))) | apply Wk.nilv | apply Wk.last | apply Wk.drop) ⟨Nat.zero_le _, rfl⟩ ?_
    rintro ⟨i, v2⟩ ⟨hi2, hv2⟩
    dsimp only at hi2 hv2 ⊢
    have hlen2 : v2.length = (c.max + 1).toNat := by rw [hv2, tLt_len, hlen]
    rcases Nat.lt_or_ge i c.latches.length with hlt | hge
    · have hd := (R.lat (gt_mem (l := c.latches) (i := (i : Int)) (by omega) (by omega))).1
      have hst := tLt_succ c s v i
      rw [← hv2] at hst
      unfold defR at hd
      repeat' (first
|(apply GC_seqK;intro K hK)
|(apply hK;clear hK K)
|(apply GC_block)
|(apply GC_region)
|(apply GL_nil)
|(apply thenG_normal)
|(apply blockG_normal)
|(apply GC_skip)
|(apply GC_if_true;eq_refl)
|(apply GL_on;eq_refl;eq_refl)
|(refine GC_draws (id := 11) [.q 0, .q 1, .q 2, .q 3, .q 4, .q 5, .q 6, .q 7, .q 8, .c 9] mixed (by kernel_rfl) (by kernel_rfl) ?_)
|(apply GS_nil)
|(apply GS_qon;eq_refl;eq_refl;eq_refl;eq_refl)
|(apply GS_con;eq_refl;eq_refl;eq_refl;eq_refl)
|(apply G_pv;eq_refl;first|exact trivial|omega)
|(apply G_field;eq_refl)
|(apply G_ld;eq_refl;(repeat first|exact In.here|apply In.there|apply In.skip);eq_refl)
|(apply G_rd;eq_refl;(first|(apply Rd.own;(repeat first|exact In.here|apply In.there|apply In.skip);infer_instance)|(apply Rd.old;(repeat first|exact In.here|apply In.there|apply In.skip);assumption)|(apply Rd.oldR;(repeat first|exact In.here|apply In.there|apply In.skip);assumption)|exact Rd.nil|assumption);(case ih => infer_instance);omega;omega;eq_refl)
|(apply G_rdW;eq_refl;(first|(apply Rd.own;(repeat first|exact In.here|apply In.there|apply In.skip);infer_instance)|(apply Rd.old;(repeat first|exact In.here|apply In.there|apply In.skip);assumption)|(apply Rd.oldR;(repeat first|exact In.here|apply In.there|apply In.skip);assumption)|exact Rd.nil|assumption);infer_instance;(case ih => infer_instance);omega;omega)
|(apply G_cmpT;eq_refl;eq_refl;omega)
|(apply G_ix;eq_refl;eq_refl;(first|(apply Rd.own;(repeat first|exact In.here|apply In.there|apply In.skip);infer_instance)|(apply Rd.old;(repeat first|exact In.here|apply In.there|apply In.skip);assumption)|(apply Rd.oldR;(repeat first|exact In.here|apply In.there|apply In.skip);assumption)|exact Rd.nil|assumption);(first|eq_refl|omega);omega;omega)
|(apply G_alloc;eq_refl;intro _)
|(apply G_stV;(first|exact wr_p|kernel_rfl);eq_refl;eq_refl;eq_refl;eq_refl;(repeat first|exact Upd.here|apply Upd.there|apply Upd.skip);infer_instance;infer_instance;eq_refl;omega;(try simp only [List.length_set, List.length_append, List.length_replicate]);omega)
|(apply G_stW;(first|exact wr_p|kernel_rfl);eq_refl;eq_refl;eq_refl;eq_refl;(repeat first|exact Upd.here|apply Upd.there|apply Upd.skip);eq_refl))
      exact ⟨(i + 1, _), (by repeat first | exact trivial | refine ⟨rfl, ?_⟩), (by repeat first | exact Wk.nil | exact Wk.refl | (apply Wk.cons; (focus ((repeat first | exact Rem.here | apply Rem.there | apply Rem.skip); done))) | apply Wk.nilv | apply Wk.last | apply Wk.drop), ⟨hlt, hst.symm⟩, by simp only; omega⟩
    · obtain rfl : i = c.latches.length := by omega
      have hvr2 : Row3 v2 := by rw [hv2]; exact tLt_row h3 hvr _ (by omega)
      repeat' (first
|(apply GC_seqK;intro K hK)
|(apply hK;clear hK K)
|(clear hK K;apply hK;clear hK K)
|(apply GC_block)
|(apply GC_region)
|(apply GL_nil)
|(apply thenG_normal)
|(apply thenG_exit)
|(apply blockG_hit)
|(apply GC_exit)
|(apply GC_if_false;eq_refl)
|(apply GL_on;eq_refl;eq_refl)
|(apply G_pv;eq_refl;first|exact trivial|omega)
|(apply G_field;eq_refl)
|(apply G_ldO;eq_refl;(repeat first|exact In.here|apply In.there|apply In.skip);assumption;eq_refl)
|(apply G_cmpF;eq_refl;eq_refl;omega)
|(apply G_len;eq_refl))
      refine GC_loopK [0, 7, 69, 70] (fun s : Nat × List Int => [(71, nu s.1)]) (fun s => [.vec icell 1 3 (some ⟨b1, 0, none⟩) (q + 1) s.2, .old w none_]) (fun t => t.1 ≤ (ordM c).length ∧ t.2 = tAn c (ordM c) v2 t.1) (fun s => (ordM c).length - s.1) (0, _) (by repeat first | exact Pick.nil | (apply Pick.cons; eq_refl)) (by repeat first | exact trivial | refine ⟨rfl, ?_⟩) (by repeat first | exact Wk.nil | exact Wk.refl | (apply Wk.cons; (focus ((repeat first | exact Rem.here | apply Rem.there | apply Rem.skip); done))) | apply Wk.nilv | apply Wk.last | apply Wk.drop) ⟨Nat.zero_le _, rfl⟩ ?_
      rintro ⟨i, v3⟩ ⟨hi3, hv3⟩
      dsimp only at hi3 hv3 ⊢
      have hlen3 : v3.length = (c.max + 1).toNat := by rw [hv3, tAn_len, hlen2]
      have hvr3 : Row3 v3 := by rw [hv3]; exact tAn_row hvr2 _
      rcases Nat.lt_or_ge i (ordM c).length with hlt | hge
      · have ho := R.ord (gt_mem (l := ordM c) (i := (i : Int)) (by omega) (by omega))
        have hst := tAn_succ c (ordM c) v2 i
        rw [← hv3] at hst
        obtain ⟨hd, hl1, hl2⟩ := R.gate (gt_mem (l := c.ands) ho.1 ho.2)
        have u1 := hl1.hasI hlen3
        have u2 := hl2.hasI hlen3
        unfold defR at hd
        have hof : ∀ Γ, In Γ (.old w none_) → In Γ (.vec icell 1 3 (some ⟨b1, 0, none⟩) (q + 1) v3) → ∀ l : Int, 0 ≤ l / 2 → l / 2 < v3.length → ∀ w', Mem w' Γ → CVN Tryd.prog 43 [.slice (some ⟨b1, 0, none⟩) (q + 1) (q + 1), nu l] w' fun r N => N = [] ∧ r = nu (tl v3 l) := fun Γ hi hv l g0 g1 w' M => of3_cv (G.chg (hi.old M)) (hv.row M) (by omega) hvr3 g0 g1 (by omega)
        have ho1 := fun Γ hi hv w' M => hof Γ hi hv _ u1.1 u1.2 w' M
        have ho2 := fun Γ hi hv w' M => hof Γ hi hv _ u2.1 u2.2 w' M
        have x3 := hvr3.tl u1.1 u1.2
        have y3 := hvr3.tl u2.1 u2.2
        have hbo := G.both' x3 y3
        generalize tl v3 (gt c.ands (gt (ordM c) (i : Int))).2.1 = x at *
        generalize tl v3 (gt c.ands (gt (ordM c) (i : Int))).2.2 = y at *
        have x3' := x3
        have y3' := y3
        unfold Is3 at x3' y3'
        repeat' (first
|(apply G_call;eq_refl;eq_refl;(apply ho1;(repeat first|exact In.here|apply In.there|apply In.skip);(repeat first|exact In.here|apply In.there|apply In.skip));rintro _ _ ⟨rfl, rfl⟩)
|(apply G_call;eq_refl;eq_refl;(apply ho2;(repeat first|exact In.here|apply In.there|apply In.skip);(repeat first|exact In.here|apply In.there|apply In.skip));rintro _ _ ⟨rfl, rfl⟩)
|(apply G_ixP;eq_refl;eq_refl;omega;omega)
|(apply G_ldC;eq_refl;(repeat first|exact In.here|apply In.there|apply In.skip);exact hbo)
|(apply GC_seqK;intro K hK)
|(apply hK;clear hK K)
|(apply GC_block)
|(apply GC_region)
|(apply GL_nil)
|(apply thenG_normal)
|(apply blockG_normal)
|(apply GC_skip)
|(apply GC_if_true;eq_refl)
|(apply GL_on;eq_refl;eq_refl)
|(refine GC_draws (id := 17) [.q 0, .q 1, .q 2, .q 3, .q 4, .q 5, .q 6, .q 8, .q 9, .q 10, .c 7, .q 12, .c 11, .q 13, .q 14, .q 15, .c 16] mixed (by kernel_rfl) (by kernel_rfl) ?_)
|(apply GS_nil)
|(apply GS_qon;eq_refl;eq_refl;eq_refl;eq_refl)
|(apply GS_con;eq_refl;eq_refl;eq_refl;eq_refl)
|(apply G_pv;eq_refl;first|exact trivial|omega)
|(apply G_field;eq_refl)
|(apply G_ld;eq_refl;(repeat first|exact In.here|apply In.there|apply In.skip);eq_refl)
|(apply G_ldO;eq_refl;(repeat first|exact In.here|apply In.there|apply In.skip);assumption;eq_refl)
|(apply G_rd;eq_refl;(first|(apply Rd.own;(repeat first|exact In.here|apply In.there|apply In.skip);infer_instance)|(apply Rd.old;(repeat first|exact In.here|apply In.there|apply In.skip);assumption)|(apply Rd.oldR;(repeat first|exact In.here|apply In.there|apply In.skip);assumption)|exact Rd.nil|assumption);(case ih => infer_instance);omega;omega;eq_refl)
|(apply G_rdW;eq_refl;(first|(apply Rd.own;(repeat first|exact In.here|apply In.there|apply In.skip);infer_instance)|(apply Rd.old;(repeat first|exact In.here|apply In.there|apply In.skip);assumption)|(apply Rd.oldR;(repeat first|exact In.here|apply In.there|apply In.skip);assumption)|exact Rd.nil|assumption);infer_instance;(case ih => infer_instance);omega;omega)
|(apply G_cmpT;eq_refl;eq_refl;omega)
|(apply G_ix;eq_refl;eq_refl;(first|(apply Rd.own;(repeat first|exact In.here|apply In.there|apply In.skip);infer_instance)|(apply Rd.old;(repeat first|exact In.here|apply In.there|apply In.skip);assumption)|(apply Rd.oldR;(repeat first|exact In.here|apply In.there|apply In.skip);assumption)|exact Rd.nil|assumption);(first|eq_refl|omega);omega;omega)
|(apply G_alloc;eq_refl;intro _)
|(apply G_stV;(first|exact wr_p|kernel_rfl);eq_refl;eq_refl;eq_refl;eq_refl;(repeat first|exact Upd.here|apply Upd.there|apply Upd.skip);infer_instance;infer_instance;eq_refl;omega;(try simp only [List.length_set, List.length_append, List.length_replicate]);omega)
|(apply G_stW;(first|exact wr_p|kernel_rfl);eq_refl;eq_refl;eq_refl;eq_refl;(repeat first|exact Upd.here|apply Upd.there|apply Upd.skip);eq_refl))
        exact ⟨(i + 1, _), (by repeat first | exact trivial | refine ⟨rfl, ?_⟩), (by repeat first | exact Wk.nil | exact Wk.refl | (apply Wk.cons; (focus ((repeat first | exact Rem.here | apply Rem.there | apply Rem.skip); done))) | apply Wk.nilv | apply Wk.last | apply Wk.drop), ⟨hlt, hst.symm⟩, by simp only; omega⟩
      · obtain rfl : i = (ordM c).length := by omega
        repeat' (first
|(apply GC_seqK;intro K hK)
|(apply hK;clear hK K)
|(clear hK K;apply hK;clear hK K)
|(apply GC_region)
|(apply GL_nil)
|(apply thenG_normal)
|(apply thenG_exit)
|(apply blockG_hit)
|(apply GC_ret)
|(apply GC_exit)
|(apply GC_if_false;eq_refl)
|(apply retG1;eq_refl)
|(apply GL_on;eq_refl;eq_refl)
|(apply G_pv;eq_refl;first|exact trivial|omega)
|(apply G_cmpF;eq_refl;eq_refl;omega))
        subst hv3 hv2 hv
        have e9 := valT_len m0 s r
        refine ⟨[.vec icell 1 3 (some ⟨b1, 0, none⟩) (q + 1) (valT c s r)], (by repeat first | exact Wk.nil | exact Wk.refl | (apply Wk.cons; (focus ((repeat first | exact Rem.here | apply Rem.there | apply Rem.skip); done))) | apply Wk.nilv | apply Wk.last | apply Wk.drop), some ⟨b1, 0, none⟩, q + 1, by rw [e9, hq]; rfl, rfl⟩
end SC
end Go.Proofs.YtclihihdgodloaaDoor
end
section
/- tern: ready, next, looked, Values, Step, resets, Resets. -/
set_option linter.unusedVariables false
set_option linter.unusedSimpArgs false
namespace Go.Proofs.YtclihihdgodloaaDoor
namespace SC
open Go.Proofs
/-- What ready answers. -/
def ReadyT (c : Circ) (h : Hd) (v : Value) (N : Mm) : Prop :=
  ((lookM c).2 ≠ 0 ∧ v = .tuple #[.pointer none, nu (lookM c).2] ∧ N = []) ∨ ((lookM c).2 = 0 ∧ ∃ p B k, v = .tuple #[pt p, nu 0] ∧ N = [.box p 103 (rcells c h B k), .vec icell 1 3 B k (ordM c)])
/-- What is wrong with rows. -/
noncomputable def twE (c : Circ) (s r : List Int) : Int := if (lookM c).2 ≠ 0 then (lookM c).2 else if (rowB s c.latches.length && rowB r c.inputs.length) = true then 0 else 80
theorem twE_look {c : Circ} {s r : List Int} (h : (lookM c).2 ≠ 0) : twE c s r = (lookM c).2 := if_pos h
theorem twE_ok {c : Circ} {s r : List Int} (h : (lookM c).2 = 0) (h1 : rowB s c.latches.length = true) (h2 : rowB r c.inputs.length = true) : twE c s r = 0 := by unfold twE; rw [if_neg (by omega), h1, h2]; rfl
theorem twE_no {c : Circ} {s r : List Int} (h : (lookM c).2 = 0) (h1 : (rowB s c.latches.length && rowB r c.inputs.length) = false) : twE c s r = 80 := by unfold twE; rw [if_neg (by omega), h1]; rfl
theorem twE_zero {c : Circ} {s r : List Int} (h : twE c s r = 0) : (lookM c).2 = 0 ∧ (s.length = c.latches.length ∧ Row3 s) ∧ r.length = c.inputs.length ∧ Row3 r := by
  unfold twE at h
  split at h
  · exact absurd h (by assumption)
  · split at h
    · rename_i h1 h2
      rw [Bool.and_eq_true] at h2
      exact ⟨by omega, rowB_iff.1 h2.1, rowB_iff.1 h2.2⟩
    · cases h
def LookedT (c : Circ) (h : Hd) (s r : List Int) (v : Value) (N : Mm) : Prop :=
  (twE c s r ≠ 0 ∧ v = .tuple #[.pointer none, .slice none 0 0, nu (twE c s r)] ∧ N = []) ∨
  (twE c s r = 0 ∧ ∃ p B k A k', v = .tuple #[pt p, .slice A (valT c s r).length k', nu 0] ∧ N = [.vec icell 1 3 A k' (valT c s r), .box p 103 (rcells c h B k), .vec icell 1 3 B k (ordM c)])
/-- A list of numbers and an error as an answer. -/
def IntsE (m : List Int) (ε : Int) (v : Value) (N : Mm) : Prop := ∃ A k, v = .tuple #[.slice A m.length k, nu ε] ∧ N = [.vec icell 1 3 A k m]
noncomputable def tvM (c : Circ) (s r : List Int) : List Int := if twE c s r = 0 then valT c s r else []
noncomputable def tnM (c : Circ) (s r : List Int) : List Int := if twE c s r = 0 then nxtT c (valT c s r) else []
attribute [local irreducible] WC WL WX WS WO OX Does DoesU Enters CV Pure thenQ blockQ retQ Wants retQC GC GL GS GX RdB thenG blockG retG Rd At gt CVN CVM
set_option maxRecDepth 100000
theorem readyT_cv {w : World} {c : Circ} {h js : Hd} (H : CirIn w c h js) : CVN Tryd.prog 48 [.agg (ccells c h).toArray] w (ReadyT c h) := by
  have hord : ∀ Γ, In Γ (.old w none_) → ∀ w', Mem w' Γ → CVN Tryd.prog 75 [.agg (ccells c h).toArray] w' (OrdR c) := fun Γ hi w' M => have H' := H.chg (hi.old M); OrderG H'.at_ H'.sane
  refine CVN.enter 18 [2, 3] Tryd.func48 rfl rfl rfl (by decide) rfl ?_
  repeat' (first
|(apply G_call;eq_refl;eq_refl;(apply hord;(repeat first|exact In.here|apply In.there|apply In.skip));rintro _ _ (⟨he, rfl, rfl⟩|⟨he, A1, k1, rfl, rfl⟩))
|(apply GC_seqK;intro K hK)
|(apply hK;clear hK K)
|(apply GC_region)
|(apply GL_nil)
|(apply thenG_normal)
|(apply thenG_ret)
|(apply GC_ret)
|(apply GC_skip)
|(apply GC_if_true;eq_refl)
|(apply GC_if_false;eq_refl)
|(apply retG2;eq_refl;eq_refl)
|(apply GL_on;eq_refl;eq_refl)
|(apply G_pv;eq_refl;first|exact trivial|omega)
|(apply G_ldW;eq_refl;(repeat first|exact In.here|apply In.there|apply In.skip);eq_refl)
|(apply G_cmpT;eq_refl;eq_refl;omega)
|(apply G_cmpF;eq_refl;eq_refl;omega)
|(apply G_box;eq_refl;eq_refl;intro _)
|(apply GX_pure;apply build103_0_1 <;> eq_refl))
  · exact ⟨[], (by repeat first | exact Wk.nil | exact Wk.refl | (apply Wk.cons; (focus ((repeat first | exact Rem.here | apply Rem.there | apply Rem.skip); done))) | apply Wk.nilv | apply Wk.last | apply Wk.drop), .inl ⟨he, rfl, rfl⟩⟩
  · exact ⟨[.box _ 103 (rcells c h A1 k1), _], (by repeat first | exact Wk.nil | exact Wk.refl | (apply Wk.cons; (focus ((repeat first | exact Rem.here | apply Rem.there | apply Rem.skip); done))) | apply Wk.nilv | apply Wk.last | apply Wk.drop), .inr ⟨he, _, _, _, rfl, rfl⟩⟩
theorem nextT_cv {w : World} {c : Circ} {h js : Hd} {p : Nat} {B A : Option Addr} {k1 k : Nat} {v : List Int} (G : TabG w) (R : Right c) (hP : Blk w p 103 (rcells c h B k1)) (H : CirAt w c h js) (hA : RowA w icell 1 A v) (hv : Row3 v) (hl : v.length = (c.max + 1).toNat) :
    CVN Tryd.prog 52 [pt p, .slice A v.length k] w fun r N => ∃ A' k', r = .slice A' (nxtT c v).length k' ∧ N = [.vec icell 1 3 A' k' (nxtT c v)] := by
  have hLat := H.latches
  have hn := R.nLat
  have m1 := R.m1
  have fl0 : fillL (fun x : Tri => tl v x.2.1) c.latches 0 0 = List.replicate c.latches.length 0 := fillL_0
  refine CVN.enter 35 [4] Tryd.func52 rfl rfl rfl (by decide) rfl ?_
  repeat' (first
|(apply G_make icell;eq_refl;eq_refl;eq_refl;omega;decide;intro b1)
|(apply GC_seqK;intro K hK)
|(apply hK;clear hK K)
|(apply GC_block)
|(apply GC_region)
|(apply GL_nil)
|(apply thenG_normal)
|(apply GL_on;eq_refl;eq_refl)
|(apply G_pv;eq_refl;first|exact trivial|omega)
|(apply G_field;eq_refl)
|(apply G_ldO;eq_refl;(repeat first|exact In.here|apply In.there|apply In.skip);assumption;eq_refl)
|(apply G_len;eq_refl))
  refine GC_loopK [1, 5, 19, 20] (fun s : Nat × List Int => [(21, nu s.1)]) (fun s => [.vec icell 1 3 (some ⟨b1, 0, none⟩) c.latches.length s.2, .old w none_]) (fun s => s.1 ≤ c.latches.length ∧ s.2 = fillL (fun x => tl v x.2.1) c.latches 0 s.1) (fun s => c.latches.length - s.1) (0, List.replicate c.latches.length 0) (by repeat first | exact Pick.nil | (apply Pick.cons; eq_refl)) (by repeat first | exact trivial | refine ⟨rfl, ?_⟩) (by repeat first | exact Wk.nil | exact Wk.refl | (apply Wk.cons; (focus ((repeat first | exact Rem.here | apply Rem.there | apply Rem.skip); done))) | apply Wk.nilv | apply Wk.last | apply Wk.drop) ⟨Nat.zero_le _, fl0.symm⟩ ?_
  rintro ⟨i, out⟩ ⟨hi, hout⟩
  dsimp only at hi hout ⊢
  have hlen : out.length = c.latches.length := by rw [hout, fillL_len hi]
  rcases Nat.lt_or_ge i c.latches.length with hlt | hge
  · have u := (R.lat (gt_mem (l := c.latches) (i := (i : Int)) (by omega) (by omega))).2.1.hasI hl
    have hst := fillL_set (f := fun x : Tri => tl v x.2.1) (z := (0 : Int)) hlt
    rw [← hout] at hst
    have hof : ∀ Γ, In Γ (.old w none_) → ∀ w', Mem w' Γ → CVN Tryd.prog 43 [.slice A v.length k, nu (gt c.latches (i : Int)).2.1] w' _ := fun Γ ho w' M => of3_cv (G.chg (ho.old M)) (hA.chg (ho.old M)) rfl hv u.1 u.2 (by omega)
    repeat' (first
|(apply G_call;eq_refl;eq_refl;(apply hof;(repeat first|exact In.here|apply In.there|apply In.skip));rintro _ _ ⟨rfl, rfl⟩)
|(apply GC_seqK;intro K hK)
|(apply hK;clear hK K)
|(apply GC_block)
|(apply GC_region)
|(apply GL_nil)
|(apply thenG_normal)
|(apply blockG_normal)
|(apply GC_skip)
|(apply GC_if_true;eq_refl)
|(apply GL_on;eq_refl;eq_refl)
|(apply G_pv;eq_refl;first|exact trivial|omega)
|(apply G_field;eq_refl)
|(apply G_ld;eq_refl;(repeat first|exact In.here|apply In.there|apply In.skip);eq_refl)
|(apply G_rdW;eq_refl;(first|(apply Rd.own;(repeat first|exact In.here|apply In.there|apply In.skip);infer_instance)|(apply Rd.old;(repeat first|exact In.here|apply In.there|apply In.skip);assumption)|(apply Rd.oldR;(repeat first|exact In.here|apply In.there|apply In.skip);assumption)|exact Rd.nil|assumption);infer_instance;(case ih => infer_instance);omega;omega)
|(apply G_cmpT;eq_refl;eq_refl;omega)
|(apply G_ix;eq_refl;eq_refl;(first|(apply Rd.own;(repeat first|exact In.here|apply In.there|apply In.skip);infer_instance)|(apply Rd.old;(repeat first|exact In.here|apply In.there|apply In.skip);assumption)|(apply Rd.oldR;(repeat first|exact In.here|apply In.there|apply In.skip);assumption)|exact Rd.nil|assumption);(first|eq_refl|omega);omega;omega)
|(apply G_alloc;eq_refl;intro _)
|(apply G_stV;(first|exact wr_p|kernel_rfl);eq_refl;eq_refl;eq_refl;eq_refl;(repeat first|exact Upd.here|apply Upd.there|apply Upd.skip);infer_instance;infer_instance;eq_refl;omega;(try simp only [List.length_set, List.length_append, List.length_replicate]);omega)
|(apply G_stW;(first|exact wr_p|kernel_rfl);eq_refl;eq_refl;eq_refl;eq_refl;(repeat first|exact Upd.here|apply Upd.there|apply Upd.skip);eq_refl))
    exact ⟨(i + 1, _), (by repeat first | exact trivial | refine ⟨rfl, ?_⟩), (by repeat first | exact Wk.nil | exact Wk.refl | (apply Wk.cons; (focus ((repeat first | exact Rem.here | apply Rem.there | apply Rem.skip); done))) | apply Wk.nilv | apply Wk.last | apply Wk.drop), ⟨hlt, hst⟩, by simp only; omega⟩
  · rw [fillL_all hge] at hout
    repeat' (first
|(apply GC_seqK;intro K hK)
|(apply hK;clear hK K)
|(clear hK K;apply hK;clear hK K)
|(apply GC_region)
|(apply GL_nil)
|(apply thenG_normal)
|(apply thenG_exit)
|(apply blockG_hit)
|(apply GC_ret)
|(apply GC_exit)
|(apply GC_if_false;eq_refl)
|(apply retG1;eq_refl)
|(apply GL_on;eq_refl;eq_refl)
|(apply G_pv;eq_refl;first|exact trivial|omega)
|(apply G_cmpF;eq_refl;eq_refl;omega))
    have e1 : c.latches.length = (nxtT c v).length := by unfold nxtT; simp
    refine ⟨[.vec icell 1 3 (some ⟨b1, 0, none⟩) c.latches.length out], (by repeat first | exact Wk.nil | exact Wk.refl | (apply Wk.cons; (focus ((repeat first | exact Rem.here | apply Rem.there | apply Rem.skip); done))) | apply Wk.nilv | apply Wk.last | apply Wk.drop), some ⟨b1, 0, none⟩, c.latches.length, by rw [e1], by rw [hout]; rfl⟩
section
variable {w : World} {c : Circ} {h js : Hd} {S T : Option Addr} {k2 k3 : Nat} {s r : List Int} (G : TabG w) (H : CirIn w c h js) (hS : RowA w icell 1 S s) (hT : RowA w icell 1 T r) (hs : s.length ≤ 9223372036854775807) (hr : r.length ≤ 9223372036854775807)
include G H hS hT hs hr
theorem lookedT_cv : CVN Tryd.prog 39 [.agg (ccells c h).toArray, .slice S s.length k2, .slice T r.length k3] w (LookedT c h s r) := by
  have hrd : ∀ Γ, In Γ (.old w none_) → ∀ w', Mem w' Γ → CVN Tryd.prog 48 [.agg (ccells c h).toArray] w' (ReadyT c h) := fun Γ hi w' M => readyT_cv (H.chg (hi.old M))
  have hr1 : ∀ Γ, In Γ (.old w none_) → ∀ w', Mem w' Γ → CVN Tryd.prog 61 [.slice S s.length k2, nu c.latches.length] w' _ := fun Γ hi w' M => isRow_cv (hS.chg (hi.old M)) hs
  have hr2 : ∀ Γ, In Γ (.old w none_) → ∀ w', Mem w' Γ → CVN Tryd.prog 61 [.slice T r.length k3, nu c.inputs.length] w' _ := fun Γ hi w' M => isRow_cv (hT.chg (hi.old M)) hr
  have hvl : twE c s r = 0 → ∀ Γ p B k, In Γ (.old w none_) → In Γ (.box p 103 (rcells c h B k)) → In Γ (.vec icell 1 3 B k (ordM c)) → ∀ w', Mem w' Γ → CVN Tryd.prog 45 [pt p, .slice S s.length k2, .slice T r.length k3] w' _ := fun he Γ p B k hi hb hv w' M => by
    obtain ⟨z0, ⟨z1, z2⟩, z3, z4⟩ := twE_zero he
    have H' := H.chg (hi.old M)
    exact valuesT_cv (G.chg (hi.old M)) (right_of H'.at_ H'.sane z0) (hb.box M) H'.at_ (hv.row M) (hS.chg (hi.old M)) (hT.chg (hi.old M)) z1 z3 z2 z4
  have hInp := H.at_.inputs
  have hLat := H.at_.latches
  unfold LookedT
  refine CVN.enter 38 [6, 7, 8] Tryd.func39 rfl rfl rfl (by decide) rfl ?_
  by_cases he : (lookM c).2 = 0
  · cases h1 : rowB s c.latches.length
    · have e0 := twE_no (s := s) (r := r) he (by rw [h1]; rfl)
      rw [h1] at hr1
      rw [e0]
      repeat' (first
|(apply G_call;eq_refl;eq_refl;(apply hrd;(repeat first|exact In.here|apply In.there|apply In.skip));rintro _ _ (⟨he', rfl, rfl⟩|⟨_, p1, A1, k1, rfl, rfl⟩);(exact absurd he he'))
|(apply G_call;eq_refl;eq_refl;(apply hr1;(repeat first|exact In.here|apply In.there|apply In.skip));rintro _ _ ⟨rfl, rfl⟩)
|(apply GC_seqK;intro K hK)
|(apply hK;clear hK K)
|(apply GC_region)
|(apply GL_nil)
|(apply thenG_normal)
|(apply thenG_ret)
|(apply GC_ret)
|(apply GC_skip)
|(apply GC_if_true;eq_refl)
|(apply GC_if_false;eq_refl)
|(apply retG3;eq_refl;eq_refl;eq_refl)
|(apply GL_on;eq_refl;eq_refl)
|(apply GL_off;eq_refl;eq_refl)
|(apply G_pv;eq_refl;first|exact trivial|omega)
|(apply G_field;eq_refl)
|(apply G_ld;eq_refl;(repeat first|exact In.here|apply In.there|apply In.skip);eq_refl)
|(apply G_ldW;eq_refl;(repeat first|exact In.here|apply In.there|apply In.skip);eq_refl)
|(apply G_cmpF;eq_refl;eq_refl;omega)
|(apply G_len;eq_refl)
|(apply G_box;eq_refl;eq_refl;intro _))
      exact ⟨[], (by repeat first | exact Wk.nil | exact Wk.refl | (apply Wk.cons; (focus ((repeat first | exact Rem.here | apply Rem.there | apply Rem.skip); done))) | apply Wk.nilv | apply Wk.last | apply Wk.drop), .inl ⟨by decide, rfl, rfl⟩⟩
    · rw [h1] at hr1
      cases h2 : rowB r c.inputs.length
      · have e0 := twE_no (s := s) (r := r) he (by rw [h1, h2]; rfl)
        rw [h2] at hr2
        rw [e0]
        repeat' (first
|(apply G_call;eq_refl;eq_refl;(apply hrd;(repeat first|exact In.here|apply In.there|apply In.skip));rintro _ _ (⟨he', rfl, rfl⟩|⟨_, p1, A1, k1, rfl, rfl⟩);(exact absurd he he'))
|(apply G_call;eq_refl;eq_refl;(apply hr1;(repeat first|exact In.here|apply In.there|apply In.skip));rintro _ _ ⟨rfl, rfl⟩)
|(apply G_call;eq_refl;eq_refl;(apply hr2;(repeat first|exact In.here|apply In.there|apply In.skip));rintro _ _ ⟨rfl, rfl⟩)
|(apply GC_seqK;intro K hK)
|(apply hK;clear hK K)
|(apply GC_region)
|(apply GL_nil)
|(apply thenG_normal)
|(apply thenG_ret)
|(apply GC_ret)
|(apply GC_skip)
|(apply GC_if_true;eq_refl)
|(apply GC_if_false;eq_refl)
|(apply retG3;eq_refl;eq_refl;eq_refl)
|(apply GL_on;eq_refl;eq_refl)
|(apply G_pv;eq_refl;first|exact trivial|omega)
|(apply G_field;eq_refl)
|(apply G_ld;eq_refl;(repeat first|exact In.here|apply In.there|apply In.skip);eq_refl)
|(apply G_ldW;eq_refl;(repeat first|exact In.here|apply In.there|apply In.skip);eq_refl)
|(apply G_cmpF;eq_refl;eq_refl;omega)
|(apply G_len;eq_refl)
|(apply G_box;eq_refl;eq_refl;intro _))
        exact ⟨[], (by repeat first | exact Wk.nil | exact Wk.refl | (apply Wk.cons; (focus ((repeat first | exact Rem.here | apply Rem.there | apply Rem.skip); done))) | apply Wk.nilv | apply Wk.last | apply Wk.drop), .inl ⟨by decide, rfl, rfl⟩⟩
      · have e0 := twE_ok he h1 h2
        have hv := hvl e0
        rw [h2] at hr2
        rw [e0]
        repeat' (first
|(apply G_call;eq_refl;eq_refl;(apply hrd;(repeat first|exact In.here|apply In.there|apply In.skip));rintro _ _ (⟨he', rfl, rfl⟩|⟨_, p1, A1, k1, rfl, rfl⟩);(exact absurd he he'))
|(apply G_call;eq_refl;eq_refl;(apply hr1;(repeat first|exact In.here|apply In.there|apply In.skip));rintro _ _ ⟨rfl, rfl⟩)
|(apply G_call;eq_refl;eq_refl;(apply hr2;(repeat first|exact In.here|apply In.there|apply In.skip));rintro _ _ ⟨rfl, rfl⟩)
|(apply G_call;eq_refl;eq_refl;(apply hv;(repeat first|exact In.here|apply In.there|apply In.skip);(repeat first|exact In.here|apply In.there|apply In.skip);(repeat first|exact In.here|apply In.there|apply In.skip));rintro _ _ ⟨A2, k4, rfl, rfl⟩)
|(apply GC_seqK;intro K hK)
|(apply hK;clear hK K)
|(apply GC_region)
|(apply GL_nil)
|(apply thenG_normal)
|(apply GC_ret)
|(apply GC_skip)
|(apply GC_if_false;eq_refl)
|(apply retG3;eq_refl;eq_refl;eq_refl)
|(apply GL_on;eq_refl;eq_refl)
|(apply G_pv;eq_refl;first|exact trivial|omega)
|(apply G_field;eq_refl)
|(apply G_ld;eq_refl;(repeat first|exact In.here|apply In.there|apply In.skip);eq_refl)
|(apply G_ldW;eq_refl;(repeat first|exact In.here|apply In.there|apply In.skip);eq_refl)
|(apply G_cmpF;eq_refl;eq_refl;omega)
|(apply G_len;eq_refl)
|(apply G_box;eq_refl;eq_refl;intro _))
        exact ⟨[_, _, _], (by repeat first | exact Wk.nil | exact Wk.refl | (apply Wk.cons; (focus ((repeat first | exact Rem.here | apply Rem.there | apply Rem.skip); done))) | apply Wk.nilv | apply Wk.last | apply Wk.drop), .inr ⟨rfl, _, _, _, _, _, rfl, rfl⟩⟩
  · have e0 := twE_look (s := s) (r := r) he
    rw [e0]
    repeat' (first
|(apply G_call;eq_refl;eq_refl;(apply hrd;(repeat first|exact In.here|apply In.there|apply In.skip));rintro _ _ (⟨_, rfl, rfl⟩|⟨he', p1, A1, k1, rfl, rfl⟩);rotate_left;(exact absurd he' he))
|(apply GC_seqK;intro K hK)
|(apply hK;clear hK K)
|(apply GC_region)
|(apply GL_nil)
|(apply thenG_normal)
|(apply thenG_ret)
|(apply GC_ret)
|(apply GC_if_true;eq_refl)
|(apply retG3;eq_refl;eq_refl;eq_refl)
|(apply GL_on;eq_refl;eq_refl)
|(apply G_pv;eq_refl;first|exact trivial|omega)
|(apply G_ldW;eq_refl;(repeat first|exact In.here|apply In.there|apply In.skip);eq_refl)
|(apply G_cmpT;eq_refl;eq_refl;omega)
|(apply G_box;eq_refl;eq_refl;intro _))
    exact ⟨[], (by repeat first | exact Wk.nil | exact Wk.refl | (apply Wk.cons; (focus ((repeat first | exact Rem.here | apply Rem.there | apply Rem.skip); done))) | apply Wk.nilv | apply Wk.last | apply Wk.drop), .inl ⟨he, rfl, rfl⟩⟩
theorem ValuesT_cv : CVN Tryd.prog 24 [.agg (ccells c h).toArray, .slice S s.length k2, .slice T r.length k3] w (IntsE (tvM c s r) (twE c s r)) := by
  have hst : ∀ Γ, In Γ (.old w none_) → ∀ w', Mem w' Γ → CVN Tryd.prog 39 [.agg (ccells c h).toArray, .slice S s.length k2, .slice T r.length k3] w' (LookedT c h s r) := fun Γ hi w' M => lookedT_cv (G.chg (hi.old M)) (H.chg (hi.old M)) (hS.chg (hi.old M)) (hT.chg (hi.old M)) hs hr
  refine CVN.enter 21 [6, 7] Tryd.func24 rfl rfl rfl (by decide) rfl ?_
  repeat' (first
|(apply G_call;eq_refl;eq_refl;(apply hst;(repeat first|exact In.here|apply In.there|apply In.skip));rintro _ _ (⟨he, rfl, rfl⟩|⟨he, p1, B1, k1, A1, k4, rfl, rfl⟩))
|(apply GC_seqK;intro K hK)
|(apply hK;clear hK K)
|(apply GC_region)
|(apply GL_nil)
|(apply thenG_normal)
|(apply GC_ret)
|(apply retG2;eq_refl;eq_refl)
|(apply GL_on;eq_refl;eq_refl)
|(apply G_pv;eq_refl;first|exact trivial|omega)
|(apply G_ldW;eq_refl;(repeat first|exact In.here|apply In.there|apply In.skip);eq_refl)
|(apply G_box;eq_refl;eq_refl;intro _))
  · have e1 : tvM c s r = [] := if_neg he
    unfold IntsE
    rw [e1]
    exact ⟨[.vec icell 1 3 none 0 []], (by repeat first | exact Wk.nil | exact Wk.refl | (apply Wk.cons; (focus ((repeat first | exact Rem.here | apply Rem.there | apply Rem.skip); done))) | apply Wk.nilv | apply Wk.last | apply Wk.drop), none, 0, rfl, rfl⟩
  · have e1 : tvM c s r = valT c s r := if_pos he
    unfold IntsE
    rw [e1, he]
    exact ⟨[_], (by repeat first | exact Wk.nil | exact Wk.refl | (apply Wk.cons; (focus ((repeat first | exact Rem.here | apply Rem.there | apply Rem.skip); done))) | apply Wk.nilv | apply Wk.last | apply Wk.drop), _, _, rfl, rfl⟩
theorem StepT_cv : CVN Tryd.prog 26 [.agg (ccells c h).toArray, .slice S s.length k2, .slice T r.length k3] w (IntsE (tnM c s r) (twE c s r)) := by
  have hst : ∀ Γ, In Γ (.old w none_) → ∀ w', Mem w' Γ → CVN Tryd.prog 39 [.agg (ccells c h).toArray, .slice S s.length k2, .slice T r.length k3] w' (LookedT c h s r) := fun Γ hi w' M => lookedT_cv (G.chg (hi.old M)) (H.chg (hi.old M)) (hS.chg (hi.old M)) (hT.chg (hi.old M)) hs hr
  have hnx : twE c s r = 0 → ∀ Γ p B k A k', In Γ (.old w none_) → In Γ (.box p 103 (rcells c h B k)) → In Γ (.vec icell 1 3 A k' (valT c s r)) → ∀ w', Mem w' Γ → CVN Tryd.prog 52 [pt p, .slice A (valT c s r).length k'] w' _ := fun he Γ p B k A k' hi hb hv w' M => by
    obtain ⟨z0, ⟨z1, z2⟩, z3, z4⟩ := twE_zero he
    have R := right_of H.at_ H.sane z0
    exact nextT_cv (G.chg (hi.old M)) R (hb.box M) (H.at_.chg (hi.old M)) (hv.row M) (valT_row z2 z4 z1 z3) (valT_len R.m0 s r)
  refine CVN.enter 25 [6, 7] Tryd.func26 rfl rfl rfl (by decide) rfl ?_
  repeat' (first
|(apply G_call;eq_refl;eq_refl;(apply hst;(repeat first|exact In.here|apply In.there|apply In.skip));rintro _ _ (⟨he, rfl, rfl⟩|⟨he, p1, B1, k1, A1, k4, rfl, rfl⟩))
|(apply G_call;eq_refl;eq_refl;(apply hnx he;(repeat first|exact In.here|apply In.there|apply In.skip);(repeat first|exact In.here|apply In.there|apply In.skip);(repeat first|exact In.here|apply In.there|apply In.skip));rintro _ _ ⟨A2, k5, rfl, rfl⟩)
|(apply GC_seqK;intro K hK)
|(apply hK;clear hK K)
|(apply GC_region)
|(apply GL_nil)
|(apply thenG_normal)
|(apply thenG_ret)
|(apply GC_ret)
|(apply GC_skip)
|(apply GC_if_true;eq_refl)
|(apply GC_if_false;eq_refl)
|(apply retG2;eq_refl;eq_refl)
|(apply GL_on;eq_refl;eq_refl)
|(apply G_pv;eq_refl;first|exact trivial|omega)
|(apply G_ldW;eq_refl;(repeat first|exact In.here|apply In.there|apply In.skip);eq_refl)
|(apply G_cmpT;eq_refl;eq_refl;omega)
|(apply G_cmpF;eq_refl;eq_refl;omega)
|(apply G_box;eq_refl;eq_refl;intro _))
  · have e1 : tnM c s r = [] := if_neg he
    unfold IntsE
    rw [e1]
    exact ⟨[.vec icell 1 3 none 0 []], (by repeat first | exact Wk.nil | exact Wk.refl | (apply Wk.cons; (focus ((repeat first | exact Rem.here | apply Rem.there | apply Rem.skip); done))) | apply Wk.nilv | apply Wk.last | apply Wk.drop), none, 0, rfl, rfl⟩
  · have e1 : tnM c s r = nxtT c (valT c s r) := if_pos he
    unfold IntsE
    rw [e1, he]
    exact ⟨[_], (by repeat first | exact Wk.nil | exact Wk.refl | (apply Wk.cons; (focus ((repeat first | exact Rem.here | apply Rem.there | apply Rem.skip); done))) | apply Wk.nilv | apply Wk.last | apply Wk.drop), _, _, rfl, rfl⟩
end
end SC
end Go.Proofs.YtclihihdgodloaaDoor
end
section
/- trestleref08: Not, And, Lit0, Values0, row, Values, step, Step. -/
set_option linter.unusedVariables false
set_option linter.unusedSimpArgs false
namespace Go.Proofs.YtclihihdgodloaaDoor
namespace SC
open Go.Proofs
attribute [local irreducible] WC WL WX WS WO OX Does DoesU Enters CV Pure thenQ blockQ retQ Wants retQC GC GL GS GX RdB thenG blockG retG Rd At gt CVN CVM
set_option maxRecDepth 100000
end SC
end Go.Proofs.YtclihihdgodloaaDoor
end
section
/- trestleref08: Values, step, Step; Resets, Join of both; Lit of both. -/
set_option linter.unusedVariables false
set_option linter.unusedSimpArgs false
namespace Go.Proofs.YtclihihdgodloaaDoor
namespace SC
open Go.Proofs
def rsF (x : Tri) : Int := if x.2.2 < 2 then x.2.2 else 2
theorem rsT_map (c : Circ) : rsT c = c.latches.map rsF := rfl
theorem joinT_fill {a b : List Int} {i : Nat} (h : i < a.length) : ((joinT a b).take i ++ a.drop i).set (i : Int).toNat (if gt a (i : Int) = gt b (i : Int) then gt a (i : Int) else 2) = (joinT a b).take (i + 1) ++ a.drop (i + 1) := by
  have hl := joinT_len a b
  have e := joinT_gt (a := a) (b := b) h
  rw [gt_nat (by omega)] at e
  rw [Int.toNat_natCast, ← e, List.set_append_right _ _ (by rw [List.length_take]; omega), List.length_take, show i - min i (joinT a b).length = 0 by omega, List.drop_eq_getElem_cons h, List.set_cons_zero, List.take_succ_eq_append_getElem (by omega), List.append_assoc]
  rfl
theorem joinT_keep {a b : List Int} {i : Nat} (h : i < a.length) (he : gt a (i : Int) = gt b (i : Int)) : (joinT a b).take i ++ a.drop i = (joinT a b).take (i + 1) ++ a.drop (i + 1) := by
  have hl := joinT_len a b
  have e := joinT_gt (a := a) (b := b) h
  rw [gt_nat (by omega), if_pos he, gt_nat h] at e
  rw [List.drop_eq_getElem_cons h, List.take_succ_eq_append_getElem (by omega), List.append_assoc, e]
  rfl
theorem joinG {a b : List Int} {i : Nat} (h : i < a.length) : gt ((joinT a b).take i ++ a.drop i) (i : Int) = gt a (i : Int) := by
  have hl := joinT_len a b
  have h2 : i < ((joinT a b).take i ++ a.drop i).length := by rw [List.length_append, List.length_take, List.length_drop]; omega
  rw [gt_nat h2, gt_nat h, List.getElem_append_right (by rw [List.length_take]; omega)]
  simp only [List.length_take, List.getElem_drop]
  congr 1
  omega
theorem joinG_len {a b : List Int} {i : Nat} (h : i ≤ a.length) : ((joinT a b).take i ++ a.drop i).length = a.length := by
  have hl := joinT_len a b
  rw [List.length_append, List.length_take, List.length_drop]
  omega
section
variable {P : Program} {n : Nat} {all : List Oper} {K : Env → Mm → Prop} {m : Md} {e : Env} {Γ Γ' : Mm} {d : Option Tmp} {ty t t' t0 : TypeId} {x y z : Operand}
end
attribute [local irreducible] WC WL WX WS WO OX Does DoesU Enters CV Pure thenQ blockQ retQ Wants retQC GC GL GS GX RdB thenG blockG retG Rd At gt CVN CVM
set_option maxRecDepth 100000
section
variable {w : World} {c : Circ} {h js : Hd} {S T : Option Addr} {k2 k3 : Nat} {s r : List Int} (H : CirIn w c h js) (hS : RowA w icell 1 S s) (hT : RowA w icell 1 T r) (hs : s.length ≤ 9223372036854775807) (hr : r.length ≤ 9223372036854775807)
include H hS hT hs hr
end
section
variable {w : World} {c : Circ} {h js : Hd} {S T : Option Addr} {k2 k3 : Nat} {s r : List Int} (H : CirIn w c h js) (hS : RowA w icell 1 S s) (hT : RowA w icell 1 T r) (hs : s.length ≤ 9223372036854775807) (hr : r.length ≤ 9223372036854775807)
include H hS hT hs hr
end
/-! ### Resets -/
theorem resetsP_cv {w : World} {c : Circ} {h js : Hd} (R : Right c) (H : CirAt w c h js) : CVN Tryd.prog 50 [.agg (ccells c h).toArray] w fun r N => ∃ A' k', r = .slice A' (rsT c).length k' ∧ N = [.vec icell 1 3 A' k' (rsT c)] := by
  have hLat := H.latches
  have hn := R.nLat
  have m1 := R.m1
  have fl0 : fillL rsF c.latches 0 0 = List.replicate c.latches.length 0 := fillL_0
  refine CVN.enter 31 [2] Tryd.func50 rfl rfl rfl (by decide) rfl ?_
  repeat' (first
|(apply G_make icell;eq_refl;eq_refl;eq_refl;omega;decide;intro b1)
|(apply GC_seqK;intro K hK)
|(apply hK;clear hK K)
|(apply GC_block)
|(apply GC_region)
|(apply GL_nil)
|(apply thenG_normal)
|(apply GL_on;eq_refl;eq_refl)
|(apply G_pv;eq_refl;first|exact trivial|omega)
|(apply G_field;eq_refl)
|(apply G_ld;eq_refl;(repeat first|exact In.here|apply In.there|apply In.skip);eq_refl)
|(apply G_len;eq_refl)
|(apply G_box;eq_refl;eq_refl;intro _))
  refine GC_loopK [3, 11, 12] (fun s : Nat × List Int => [(13, nu s.1)]) (fun s => [.vec icell 1 3 (some ⟨b1, 0, none⟩) c.latches.length s.2, .old w none_]) (fun s => s.1 ≤ c.latches.length ∧ s.2 = fillL rsF c.latches 0 s.1) (fun s => c.latches.length - s.1) (0, List.replicate c.latches.length 0) (by repeat first | exact Pick.nil | (apply Pick.cons; eq_refl)) (by repeat first | exact trivial | refine ⟨rfl, ?_⟩) (by repeat first | exact Wk.nil | exact Wk.refl | (apply Wk.cons; (focus ((repeat first | exact Rem.here | apply Rem.there | apply Rem.skip); done))) | apply Wk.nilv | apply Wk.last | apply Wk.drop) ⟨Nat.zero_le _, fl0.symm⟩ ?_
  rintro ⟨i, out⟩ ⟨hi, hout⟩
  dsimp only at hi hout ⊢
  have hlen : out.length = c.latches.length := by rw [hout, fillL_len hi]
  rcases Nat.lt_or_ge i c.latches.length with hlt | hge
  · have u := R.lat (gt_mem (l := c.latches) (i := (i : Int)) (by omega) (by omega))
    have hst := fillL_set (f := rsF) (z := (0 : Int)) hlt
    rw [← hout] at hst
    unfold rsF at hst
    have hl2 : (out.set (i : Int).toNat 2).length = c.latches.length := by rw [List.length_set]; exact hlen
    by_cases h2 : (gt c.latches (i : Int)).2.2 < 2
    · rw [if_pos h2] at hst
      repeat' (first
|(apply GC_seqK;intro K hK)
|(apply hK;clear hK K)
|(apply GC_block)
|(apply GC_region)
|(apply GL_nil)
|(apply thenG_normal)
|(apply blockG_normal)
|(apply GC_skip)
|(apply GC_if_true;eq_refl)
|(apply GL_on;eq_refl;eq_refl)
|(apply G_pv;eq_refl;first|exact trivial|omega)
|(apply G_field;eq_refl)
|(apply G_ld;eq_refl;(repeat first|exact In.here|apply In.there|apply In.skip);eq_refl)
|(apply G_rdW;eq_refl;(first|(apply Rd.own;(repeat first|exact In.here|apply In.there|apply In.skip);infer_instance)|(apply Rd.old;(repeat first|exact In.here|apply In.there|apply In.skip);assumption)|(apply Rd.oldR;(repeat first|exact In.here|apply In.there|apply In.skip);assumption)|exact Rd.nil|assumption);infer_instance;(case ih => infer_instance);omega;omega)
|(apply G_cmpT;eq_refl;eq_refl;omega)
|(apply G_ix;eq_refl;eq_refl;(first|(apply Rd.own;(repeat first|exact In.here|apply In.there|apply In.skip);infer_instance)|(apply Rd.old;(repeat first|exact In.here|apply In.there|apply In.skip);assumption)|(apply Rd.oldR;(repeat first|exact In.here|apply In.there|apply In.skip);assumption)|exact Rd.nil|assumption);(first|eq_refl|omega);omega;omega)
|(apply G_alloc;eq_refl;intro _)
|(apply G_stV;(first|exact wr_p|kernel_rfl);eq_refl;eq_refl;eq_refl;eq_refl;(repeat first|exact Upd.here|apply Upd.there|apply Upd.skip);infer_instance;infer_instance;eq_refl;omega;(try simp only [List.length_set, List.length_append, List.length_replicate]);omega)
|(apply G_stW;(first|exact wr_p|kernel_rfl);eq_refl;eq_refl;eq_refl;eq_refl;(repeat first|exact Upd.here|apply Upd.there|apply Upd.skip);eq_refl))
      exact ⟨(i + 1, _), (by repeat first | exact trivial | refine ⟨rfl, ?_⟩), (by repeat first | exact Wk.nil | exact Wk.refl | (apply Wk.cons; (focus ((repeat first | exact Rem.here | apply Rem.there | apply Rem.skip); done))) | apply Wk.nilv | apply Wk.last | apply Wk.drop), ⟨hlt, by rw [List.set_set]; exact hst⟩, by simp only; omega⟩
    · rw [if_neg h2] at hst
      repeat' (first
|(apply GC_seqK;intro K hK)
|(apply hK;clear hK K)
|(apply GC_block)
|(apply GC_region)
|(apply GL_nil)
|(apply thenG_normal)
|(apply blockG_normal)
|(apply GC_skip)
|(apply GC_if_true;eq_refl)
|(apply GC_if_false;eq_refl)
|(apply GL_on;eq_refl;eq_refl)
|(apply G_pv;eq_refl;first|exact trivial|omega)
|(apply G_field;eq_refl)
|(apply G_ld;eq_refl;(repeat first|exact In.here|apply In.there|apply In.skip);eq_refl)
|(apply G_rdW;eq_refl;(first|(apply Rd.own;(repeat first|exact In.here|apply In.there|apply In.skip);infer_instance)|(apply Rd.old;(repeat first|exact In.here|apply In.there|apply In.skip);assumption)|(apply Rd.oldR;(repeat first|exact In.here|apply In.there|apply In.skip);assumption)|exact Rd.nil|assumption);infer_instance;(case ih => infer_instance);omega;omega)
|(apply G_cmpT;eq_refl;eq_refl;omega)
|(apply G_cmpF;eq_refl;eq_refl;omega)
|(apply G_ix;eq_refl;eq_refl;(first|(apply Rd.own;(repeat first|exact In.here|apply In.there|apply In.skip);infer_instance)|(apply Rd.old;(repeat first|exact In.here|apply In.there|apply In.skip);assumption)|(apply Rd.oldR;(repeat first|exact In.here|apply In.there|apply In.skip);assumption)|exact Rd.nil|assumption);(first|eq_refl|omega);omega;omega)
|(apply G_alloc;eq_refl;intro _)
|(apply G_stV;(first|exact wr_p|kernel_rfl);eq_refl;eq_refl;eq_refl;eq_refl;(repeat first|exact Upd.here|apply Upd.there|apply Upd.skip);infer_instance;infer_instance;eq_refl;omega;(try simp only [List.length_set, List.length_append, List.length_replicate]);omega)
|(apply G_stW;(first|exact wr_p|kernel_rfl);eq_refl;eq_refl;eq_refl;eq_refl;(repeat first|exact Upd.here|apply Upd.there|apply Upd.skip);eq_refl))
      exact ⟨(i + 1, _), (by repeat first | exact trivial | refine ⟨rfl, ?_⟩), (by repeat first | exact Wk.nil | exact Wk.refl | (apply Wk.cons; (focus ((repeat first | exact Rem.here | apply Rem.there | apply Rem.skip); done))) | apply Wk.nilv | apply Wk.last | apply Wk.drop), ⟨hlt, hst⟩, by simp only; omega⟩
  · rw [fillL_all hge, ← rsT_map] at hout
    repeat' (first
|(apply GC_seqK;intro K hK)
|(apply hK;clear hK K)
|(clear hK K;apply hK;clear hK K)
|(apply GC_region)
|(apply GL_nil)
|(apply thenG_normal)
|(apply thenG_exit)
|(apply blockG_hit)
|(apply GC_ret)
|(apply GC_exit)
|(apply GC_if_false;eq_refl)
|(apply retG1;eq_refl)
|(apply GL_on;eq_refl;eq_refl)
|(apply G_pv;eq_refl;first|exact trivial|omega)
|(apply G_cmpF;eq_refl;eq_refl;omega))
    have e1 : c.latches.length = (rsT c).length := by unfold rsT; simp
    refine ⟨[.vec icell 1 3 (some ⟨b1, 0, none⟩) c.latches.length out], (by repeat first | exact Wk.nil | exact Wk.refl | (apply Wk.cons; (focus ((repeat first | exact Rem.here | apply Rem.there | apply Rem.skip); done))) | apply Wk.nilv | apply Wk.last | apply Wk.drop), some ⟨b1, 0, none⟩, c.latches.length, by rw [e1], by rw [hout]⟩
end SC
end Go.Proofs.YtclihihdgodloaaDoor
end
section
/- trestlebook: SameCnf, SpoilCnf; lists of numbers lent. -/
set_option linter.unusedVariables false
set_option linter.unusedSimpArgs false
namespace Go.Proofs.YtclihihdgodloaaDoor
namespace SC
open Go.Proofs
theorem In.rowL {Γ : Mm} {w : World} {t : TypeId} {A : Option Addr} {c : Nat} {l : List Int} (h : In Γ (.vec icell 1 t A c (l ++ [-77]))) (M : Mem w Γ) : RowA w icell 1 A l := RowA.left (h.row M)
attribute [local irreducible] WC WL WX WS WO OX Does DoesU Enters CV Pure thenQ blockQ retQ Wants retQC GC GL GS GX RdB thenG blockG retG Rd At gt CVN CVM
set_option maxRecDepth 100000
end SC
end Go.Proofs.YtclihihdgodloaaDoor
end
section
/- Join, Lit of both; settling. -/
set_option linter.unusedVariables false
set_option linter.unusedSimpArgs false
namespace Go.Proofs.YtclihihdgodloaaDoor
namespace SC
open Go.Proofs
theorem cloneI_cv {w : World} {A : Option Addr} {k : Nat} {l : List Int} (hA : RowA w icell 1 A l) (hb : l.length ≤ 17592186044000) : CVN Tryd.prog 44 [.slice A l.length k] w fun v N => ∃ A' k', v = .slice A' l.length k' ∧ N = [.vec icell 1 3 A' k' l] :=
  CV.mono (clone85_cv (cells := l.flatMap icell) (c := k) (fun p hp => hA.cells ilen (by decide) hp) (fun h => by subst h; exact hA.nil_of) (by rw [length_flatMap2 icell 1 ilen]) (cell1_icell l) (by omega)) fun v w' ⟨h1, h2⟩ => by
    obtain ⟨A', k', rfl, M⟩ := own_vec h1 h2
    exact ⟨_, M, A', k', rfl, rfl⟩
theorem equalIntsG {w : World} {A B : Option Addr} {c d : Nat} {l m : List Int} (R : RowA w icell 1 A l) (R' : RowA w icell 1 B m) (hl : l.length ≤ 9223372036854775807) (hm : m.length ≤ 9223372036854775807) : CVN Tryd.prog 53 [.slice A l.length c, .slice B m.length d] w fun v N => N = [] ∧ v = .bool (decide (l = m)) :=
  CVN.of (equalInts_cv R R' hl hm) fun v w' h => ⟨h.2, h.1⟩
/-- Where it settles. -/
theorem least {p : Nat → Prop} : ∀ n : Nat, p n → ∃ k, p k ∧ ∀ i < k, ¬ p i := by
  intro n
  induction n using Nat.strongRecOn with
  | _ n ih =>
    intro h
    by_cases hex : ∃ i < n, p i
    · obtain ⟨i, hi, hp⟩ := hex
      exact ih i hi hp
    · exact ⟨n, h, fun i hi hp => hex ⟨i, hi, hp⟩⟩
theorem nS_ex (c : Circ) : ∃ k, setT c (stT c k) = stT c k ∧ ∀ i < k, ¬ setT c (stT c i) = stT c i := by
  obtain ⟨n, hn⟩ := stT_ends c
  exact least n hn
noncomputable def nS (c : Circ) : Nat := Classical.choose (nS_ex c)
theorem nS_fix (c : Circ) : setT c (stT c (nS c)) = stT c (nS c) := (Classical.choose_spec (nS_ex c)).1
theorem nS_not (c : Circ) {i : Nat} (h : i < nS c) : ¬ setT c (stT c i) = stT c i := (Classical.choose_spec (nS_ex c)).2 i h
theorem nS_le (c : Circ) : nS c ≤ c.latches.length := by
  have h1 := stT_opn c (nS c) fun k hk => nS_not c hk
  have h2 := opn_le (stT c (nS c))
  rw [stT_len] at h2
  omega
noncomputable def sM (c : Circ) : List Int := if (lookM c).2 = 0 then stT c (nS c) else []
noncomputable def sN (c : Circ) : Int := if (lookM c).2 = 0 then (nS c : Int) else 0
def SetV (c : Circ) (v : Value) (N : Mm) : Prop := ∃ A k, v = .tuple #[.slice A (sM c).length k, nu (sN c), nu (lookM c).2] ∧ N = [.vec icell 1 3 A k (sM c)]
attribute [local irreducible] WC WL WX WS WO OX Does DoesU Enters CV Pure thenQ blockQ retQ Wants retQC GC GL GS GX RdB thenG blockG retG Rd At gt CVN CVM
set_option maxRecDepth 100000
theorem join3_cv {w : World} {A B : Option Addr} {k k2 : Nat} {a b : List Int} (hA : RowA w icell 1 A a) (hB : RowA w icell 1 B b) (hl : b.length = a.length) (hn : a.length ≤ 16384) : CVN Tryd.prog 51 [.slice A a.length k, .slice B b.length k2] w fun v N => ∃ A' k', v = .slice A' (joinT a b).length k' ∧ N = [.vec icell 1 3 A' k' (joinT a b)] := by
  have hcl : ∀ Γ, In Γ (.old w none_) → ∀ w', Mem w' Γ → CVN Tryd.prog 44 [.slice A a.length k] w' _ := fun Γ hi w' M => cloneI_cv (hA.chg (hi.old M)) (by omega)
  refine CVN.enter 28 [4] Tryd.func51 rfl rfl rfl (by decide) rfl ?_
  repeat' (first
|(apply G_call;eq_refl;eq_refl;(apply hcl;(repeat first|exact In.here|apply In.there|apply In.skip));rintro _ _ ⟨A1, k1, rfl, rfl⟩)
|(apply GC_seqK;intro K hK)
|(apply hK;clear hK K)
|(apply GC_block)
|(apply GC_region)
|(apply GL_nil)
|(apply thenG_normal)
|(apply GL_on;eq_refl;eq_refl)
|(apply G_pv;eq_refl;first|exact trivial|omega)
|(apply G_len;eq_refl))
  refine GC_loopK [1, 5, 10] (fun i : Nat => [(11, nu i)]) (fun i => [.vec icell 1 3 A1 k1 ((joinT a b).take i ++ a.drop i), .old w none_]) (fun i => i ≤ a.length) (fun i => a.length - i) 0 (by repeat first | exact Pick.nil | (apply Pick.cons; eq_refl)) (by repeat first | exact trivial | refine ⟨rfl, ?_⟩) (by repeat first | exact Wk.nil | exact Wk.refl | (apply Wk.cons; (focus ((repeat first | exact Rem.here | apply Rem.there | apply Rem.skip); done))) | apply Wk.nilv | apply Wk.last | apply Wk.drop) (Nat.zero_le _) ?_
  intro i hi
  have hlen := joinG_len (b := b) hi
  rcases Nat.lt_or_ge i a.length with hlt | hge
  · have e1 := joinG (b := b) hlt
    by_cases he : gt a (i : Int) = gt b (i : Int)
    · have e2 := joinT_keep hlt he
      generalize hL : (joinT a b).take i ++ a.drop i = L at *
      rw [← e1] at he
      repeat' (first
|(apply GC_seqK;intro K hK)
|(apply hK;clear hK K)
|(apply GC_block)
|(apply GC_region)
|(apply GL_nil)
|(apply thenG_normal)
|(apply blockG_normal)
|(apply GC_skip)
|(apply GC_if_true;eq_refl)
|(apply GC_if_false;eq_refl)
|(apply GL_on;eq_refl;eq_refl)
|(refine GC_draws (id := 5) [.q 0, .q 1, .q 2, .q 3, .q 4, .q 5, .q 6, .q 7, .q 8] mixed (by kernel_rfl) (by kernel_rfl) ?_)
|(apply GS_nil)
|(apply GS_qon;eq_refl;eq_refl;eq_refl;eq_refl)
|(apply G_pv;eq_refl;first|exact trivial|omega)
|(apply G_rd;eq_refl;(first|(apply Rd.own;(repeat first|exact In.here|apply In.there|apply In.skip);infer_instance)|(apply Rd.old;(repeat first|exact In.here|apply In.there|apply In.skip);assumption)|(apply Rd.oldR;(repeat first|exact In.here|apply In.there|apply In.skip);assumption)|exact Rd.nil|assumption);(case ih => infer_instance);omega;omega;eq_refl)
|(apply G_cmpT;eq_refl;eq_refl;omega)
|(apply G_cmpF;eq_refl;eq_refl;omega)
|(apply G_ix;eq_refl;eq_refl;(first|(apply Rd.own;(repeat first|exact In.here|apply In.there|apply In.skip);infer_instance)|(apply Rd.old;(repeat first|exact In.here|apply In.there|apply In.skip);assumption)|(apply Rd.oldR;(repeat first|exact In.here|apply In.there|apply In.skip);assumption)|exact Rd.nil|assumption);(first|eq_refl|omega);omega;omega))
      rw [e2]
      exact ⟨i + 1, (by repeat first | exact trivial | refine ⟨rfl, ?_⟩), (by repeat first | exact Wk.nil | exact Wk.refl | (apply Wk.cons; (focus ((repeat first | exact Rem.here | apply Rem.there | apply Rem.skip); done))) | apply Wk.nilv | apply Wk.last | apply Wk.drop), hlt, by omega⟩
    · have e2 := joinT_fill (b := b) hlt
      rw [if_neg he] at e2
      generalize hL : (joinT a b).take i ++ a.drop i = L at *
      rw [← e1] at he
      repeat' (first
|(apply GC_seqK;intro K hK)
|(apply hK;clear hK K)
|(apply GC_block)
|(apply GC_region)
|(apply GL_nil)
|(apply thenG_normal)
|(apply blockG_normal)
|(apply GC_skip)
|(apply GC_if_true;eq_refl)
|(apply GL_on;eq_refl;eq_refl)
|(refine GC_draws (id := 5) [.q 0, .q 1, .q 2, .q 3, .q 4, .q 5, .q 6, .q 7, .q 8] mixed (by kernel_rfl) (by kernel_rfl) ?_)
|(apply GS_nil)
|(apply GS_qon;eq_refl;eq_refl;eq_refl;eq_refl)
|(apply G_pv;eq_refl;first|exact trivial|omega)
|(apply G_rd;eq_refl;(first|(apply Rd.own;(repeat first|exact In.here|apply In.there|apply In.skip);infer_instance)|(apply Rd.old;(repeat first|exact In.here|apply In.there|apply In.skip);assumption)|(apply Rd.oldR;(repeat first|exact In.here|apply In.there|apply In.skip);assumption)|exact Rd.nil|assumption);(case ih => infer_instance);omega;omega;eq_refl)
|(apply G_cmpT;eq_refl;eq_refl;omega)
|(apply G_ix;eq_refl;eq_refl;(first|(apply Rd.own;(repeat first|exact In.here|apply In.there|apply In.skip);infer_instance)|(apply Rd.old;(repeat first|exact In.here|apply In.there|apply In.skip);assumption)|(apply Rd.oldR;(repeat first|exact In.here|apply In.there|apply In.skip);assumption)|exact Rd.nil|assumption);(first|eq_refl|omega);omega;omega)
|(apply G_stV;(first|exact wr_p|kernel_rfl);eq_refl;eq_refl;eq_refl;eq_refl;(repeat first|exact Upd.here|apply Upd.there|apply Upd.skip);infer_instance;infer_instance;eq_refl;omega;(try simp only [List.length_set, List.length_append, List.length_replicate]);omega))
      rw [e2]
      exact ⟨i + 1, (by repeat first | exact trivial | refine ⟨rfl, ?_⟩), (by repeat first | exact Wk.nil | exact Wk.refl | (apply Wk.cons; (focus ((repeat first | exact Rem.here | apply Rem.there | apply Rem.skip); done))) | apply Wk.nilv | apply Wk.last | apply Wk.drop), hlt, by omega⟩
  · obtain rfl : i = a.length := by omega
    have e3 : (joinT a b).take a.length ++ a.drop a.length = joinT a b := by rw [List.drop_length, List.append_nil, List.take_of_length_le (by rw [joinT_len]; exact Nat.le_refl _)]
    rw [e3]
    repeat' (first
|(apply GC_seqK;intro K hK)
|(apply hK;clear hK K)
|(clear hK K;apply hK;clear hK K)
|(apply GC_region)
|(apply GL_nil)
|(apply thenG_normal)
|(apply thenG_exit)
|(apply blockG_hit)
|(apply GC_ret)
|(apply GC_exit)
|(apply GC_if_false;eq_refl)
|(apply retG1;eq_refl)
|(apply GL_on;eq_refl;eq_refl)
|(apply G_pv;eq_refl;first|exact trivial|omega)
|(apply G_cmpF;eq_refl;eq_refl;omega))
    exact ⟨[.vec icell 1 3 A1 k1 (joinT a b)], (by repeat first | exact Wk.nil | exact Wk.refl | (apply Wk.cons; (focus ((repeat first | exact Rem.here | apply Rem.there | apply Rem.skip); done))) | apply Wk.nilv | apply Wk.last | apply Wk.drop), A1, k1, by rw [joinT_len], rfl⟩
end SC
end Go.Proofs.YtclihihdgodloaaDoor
end
section
/- Three values: what they cover; what settles; what is lifted: the plain law. -/
set_option linter.unusedVariables false
set_option linter.unusedSimpArgs false
namespace Go.Proofs.YtclihihdgodloaaDoor
namespace SC
open Go.Proofs
def Cov (x : Int) (b : Bool) : Prop := x ≠ 2 → decide (x = 1) = b
structure CovL (v : List Int) (w : List Bool) : Prop where
  len : v.length = w.length
  each : ∀ i : Nat, i < v.length → Cov (gt v (i : Int)) (gt w (i : Int))
theorem gt_set {α : Type} [Inhabited α] {l : List α} {i j : Nat} {x : α} (hi : i < l.length) : gt (l.set i x) (j : Int) = if j = i then x else gt l (j : Int) := by
  unfold gt
  simp only [Int.toNat_natCast]
  rw [List.getD_eq_getElem?_getD, List.getD_eq_getElem?_getD, List.getElem?_set]
  by_cases h : j = i
  · rw [if_pos h, if_pos h.symm, if_pos hi]
    rfl
  · rw [if_neg h, if_neg (fun e => h e.symm)]
theorem gt_setN {α : Type} [Inhabited α] {l : List α} {i j : Nat} {x : α} (hi : ¬ i < l.length) : gt (l.set i x) (j : Int) = gt l (j : Int) := by rw [List.set_eq_of_length_le (by omega)]
theorem CovL.set {v : List Int} {w : List Bool} (h : CovL v w) {i : Nat} {x : Int} {b : Bool} (hx : Cov x b) : CovL (v.set i x) (w.set i b) := by
  refine ⟨by rw [List.length_set, List.length_set, h.len], fun j hj => ?_⟩
  rw [List.length_set] at hj
  by_cases hi : i < v.length
  · rw [gt_set hi, gt_set (by rw [← h.len]; exact hi)]
    split
    · exact hx
    · exact h.each j hj
  · rw [gt_setN hi, gt_setN (by rw [← h.len]; exact hi)]
    exact h.each j hj
theorem Cov.and {x y : Int} {a b : Bool} (hx : Cov x a) (hy : Cov y b) (h1 : Is3 x) (h2 : Is3 y) : Cov (tand x y) (a && b) := by
  intro hn
  unfold Is3 at h1 h2
  unfold tand at hn ⊢
  have e : x = 0 ∨ x = 1 ∨ x = 2 := by omega
  have e' : y = 0 ∨ y = 1 ∨ y = 2 := by omega
  rcases e with rfl | rfl | rfl
  · rw [← hx (by decide)]; rfl
  · rcases e' with rfl | rfl | rfl
    · rw [← hy (by decide), ← hx (by decide)]; rfl
    · rw [← hy (by decide), ← hx (by decide)]; rfl
    · simp at hn
  · rcases e' with rfl | rfl | rfl
    · rw [← hy (by decide)]; simp
    · simp at hn
    · simp at hn
theorem CovL.tl {v : List Int} {w : List Bool} (h : CovL v w) (hv : Row3 v) {l : Int} (h0 : 0 ≤ l / 2) (h1 : l / 2 < v.length) : Cov (tl v l) (lv w l) := by
  obtain ⟨j, hj⟩ : ∃ j : Nat, l / 2 = (j : Int) := ⟨(l / 2).toNat, by omega⟩
  have hc := h.each j (by omega)
  have h3 := hv.gt h0 h1
  unfold SC.tl SC.lv
  rw [hj] at *
  unfold Is3 at h3
  intro hn
  by_cases ho : l % 2 = 1
  · rw [if_pos ho] at hn ⊢
    rw [decide_eq_true ho]
    unfold tnot at hn ⊢
    have e : gt v (j : Int) = 0 ∨ gt v (j : Int) = 1 ∨ gt v (j : Int) = 2 := by omega
    rcases e with e | e | e
    · rw [← hc (by omega), e]; rfl
    · rw [← hc (by omega), e]; rfl
    · rw [e] at hn; simp at hn
  · rw [if_neg ho] at hn ⊢
    rw [decide_eq_false ho, ← hc hn]
    simp
section
variable {c : Circ} (R : Right c)
include R
theorem cov_base : CovL (tB c) (List.replicate (c.max + 1).toNat false) := by
  refine ⟨by rw [tB_len R.m0, List.length_replicate], fun i hi => ?_⟩
  rw [tB_len R.m0] at hi
  have e : gt (List.replicate (c.max + 1).toNat false) (i : Int) = false := by rw [gt_nat (by rw [List.length_replicate]; exact hi), List.getElem_replicate]
  rw [e]
  rcases i with _ | i
  · intro _; rfl
  · intro hn
    refine absurd ?_ hn
    rw [gt_nat (by rw [tB_len R.m0]; exact hi)]
    unfold tB
    rw [List.getElem_cons_succ, List.getElem_replicate]
theorem cov_val {s r : List Int} {s' r' : List Bool} (hs : CovL s s') (hr : CovL r r') (h1 : s.length = c.latches.length) (h2 : r.length = c.inputs.length) (h3 : Row3 s) (h4 : Row3 r) : CovL (valT c s r) (valM c s' r') := by
  have m0 := R.m0
  have a1 : ∀ i ≤ c.inputs.length, CovL (tIn c r i) (vIn c r' i) := fun i => by
    induction i with
    | zero => exact fun _ => cov_base R
    | succ i ih => exact fun h => by rw [tIn_succ, vIn_succ]; exact (ih (by omega)).set (hr.each i (by omega))
  have a2 : ∀ i ≤ c.latches.length, CovL (tLt c s (tIn c r c.inputs.length) i) (vLt c s' (vIn c r' c.inputs.length) i) := fun i => by
    induction i with
    | zero => exact fun _ => a1 _ (Nat.le_refl _)
    | succ i ih => exact fun h => by rw [tLt_succ, vLt_succ]; exact (ih (by omega)).set (hs.each i (by omega))
  have r2 := tLt_row (c := c) h3 (tIn_row (c := c) h4 c.inputs.length (by omega)) c.latches.length (by omega)
  have a3 : ∀ i ≤ (ordM c).length, CovL (tAn c (ordM c) (tLt c s (tIn c r c.inputs.length) c.latches.length) i) (vAn c (ordM c) (vLt c s' (vIn c r' c.inputs.length) c.latches.length) i) := fun i => by
    induction i with
    | zero => exact fun _ => a2 _ (Nat.le_refl _)
    | succ i ih =>
      intro h
      rw [tAn_succ, vAn_succ]
      have A := ih (by omega)
      have r3 := tAn_row (c := c) (o := ordM c) r2 i
      have hl : (tAn c (ordM c) (tLt c s (tIn c r c.inputs.length) c.latches.length) i).length = (c.max + 1).toNat := by rw [tAn_len, tLt_len, tIn_len m0]
      have ho := R.ord (gt_mem (l := ordM c) (i := (i : Int)) (by omega) (by omega))
      obtain ⟨_, g1, g2⟩ := R.gate (gt_mem (l := c.ands) ho.1 ho.2)
      have u1 := g1.hasI hl
      have u2 := g2.hasI hl
      exact A.set ((A.tl r3 u1.1 u1.2).and (A.tl r3 u2.1 u2.2) (r3.tl u1.1 u1.2) (r3.tl u2.1 u2.2))
  exact a3 _ (Nat.le_refl _)
theorem cov_nxt {v : List Int} {w : List Bool} (h : CovL v w) (hv : Row3 v) (hl : v.length = (c.max + 1).toNat) : CovL (nxtT c v) (nxtM c w) := by
  refine ⟨by unfold nxtT nxtM; rw [List.length_map, List.length_map], fun i hi => ?_⟩
  have hi2 : i < c.latches.length := by unfold nxtT at hi; rwa [List.length_map] at hi
  have u := (R.lat (List.getElem_mem hi2)).2.1.hasI hl
  have e1 : gt (nxtT c v) (i : Int) = tl v c.latches[i].2.1 := (gt_nat hi).trans (List.getElem_map _)
  have e2 : gt (nxtM c w) (i : Int) = lv w c.latches[i].2.1 := (gt_nat (by unfold nxtM; rw [List.length_map]; exact hi2)).trans (List.getElem_map _)
  rw [e1, e2]
  exact h.tl hv u.1 u.2
/-- What nothing defines is open. -/
def Dfn (c : Circ) (i : Nat) : Prop := (∃ j : Nat, j < c.inputs.length ∧ (gt c.inputs (j : Int) / 2).toNat = i) ∨ (∃ j : Nat, j < c.latches.length ∧ ((gt c.latches (j : Int)).1 / 2).toNat = i) ∨ ∃ j : Nat, j < c.ands.length ∧ ((gt c.ands (j : Int)).1 / 2).toNat = i
omit R in
theorem dfn_set {v : List Int} (h : ∀ i : Nat, i < v.length → gt v (i : Int) ≠ 2 → i = 0 ∨ Dfn c i) {j : Nat} {x : Int} (hj : Dfn c j) : ∀ i : Nat, i < (v.set j x).length → gt (v.set j x) (i : Int) ≠ 2 → i = 0 ∨ Dfn c i := fun i hi hn => by
  rw [List.length_set] at hi
  by_cases hjl : j < v.length
  · rw [gt_set hjl] at hn
    by_cases e : i = j
    · rw [e]; exact .inr hj
    · rw [if_neg e] at hn
      exact h i hi hn
  · rw [gt_setN hjl] at hn
    exact h i hi hn
theorem val_dfn (s r : List Int) : ∀ i : Nat, i < (valT c s r).length → gt (valT c s r) (i : Int) ≠ 2 → i = 0 ∨ Dfn c i := by
  have a0 : ∀ i : Nat, i < (tB c).length → gt (tB c) (i : Int) ≠ 2 → i = 0 ∨ Dfn c i := fun i hi hn => by
    rcases i with _ | i
    · exact .inl rfl
    · refine absurd ?_ hn
      rw [gt_nat hi]
      show (List.replicate c.max.toNat (2 : Int))[i]'(by unfold tB at hi; simpa using hi) = 2
      rw [List.getElem_replicate]
  have a1 : ∀ k ≤ c.inputs.length, ∀ i : Nat, i < (tIn c r k).length → gt (tIn c r k) (i : Int) ≠ 2 → i = 0 ∨ Dfn c i := fun k => by
    induction k with
    | zero => exact fun _ => a0
    | succ k ih => exact fun h => by rw [tIn_succ]; exact dfn_set (ih (by omega)) (.inl ⟨k, h, rfl⟩)
  have a2 : ∀ k ≤ c.latches.length, ∀ i : Nat, i < (tLt c s (tIn c r c.inputs.length) k).length → gt (tLt c s (tIn c r c.inputs.length) k) (i : Int) ≠ 2 → i = 0 ∨ Dfn c i := fun k => by
    induction k with
    | zero => exact fun _ => a1 _ (Nat.le_refl _)
    | succ k ih => exact fun h => by rw [tLt_succ]; exact dfn_set (ih (by omega)) (.inr (.inl ⟨k, h, rfl⟩))
  have a3 : ∀ k ≤ (ordM c).length, ∀ i : Nat, i < (tAn c (ordM c) (tLt c s (tIn c r c.inputs.length) c.latches.length) k).length → gt (tAn c (ordM c) (tLt c s (tIn c r c.inputs.length) c.latches.length) k) (i : Int) ≠ 2 → i = 0 ∨ Dfn c i := fun k => by
    induction k with
    | zero => exact fun _ => a2 _ (Nat.le_refl _)
    | succ k ih =>
      intro h
      rw [tAn_succ]
      have ho := R.ord (gt_mem (l := ordM c) (i := (k : Int)) (by omega) (by omega))
      refine dfn_set (ih (by omega)) (.inr (.inr ⟨(gt (ordM c) (k : Int)).toNat, by omega, ?_⟩))
      rw [show (((gt (ordM c) (k : Int)).toNat : Nat) : Int) = gt (ordM c) (k : Int) by omega]
  exact a3 _ (Nat.le_refl _)
/-! ### runs are covered -/
omit R in
theorem CovL.join {a b : List Int} {s : List Bool} (h : CovL a s) : CovL (joinT a b) s := by
  refine ⟨by rw [joinT_len, h.len], fun i hi => ?_⟩
  rw [joinT_len] at hi
  rw [joinT_gt hi]
  split
  · exact h.each i hi
  · exact fun hn => absurd rfl hn
omit R in
theorem open_row (n : Nat) : Row3 (List.replicate n 2) := fun x hx => by rw [(List.mem_replicate.1 hx).2]; exact ⟨by decide, by decide⟩
end
/-! ### opening more -/
/-! ### lifting -/
def onesT (v ls : List Int) : Bool := ls.all fun l => decide (tl v l = 1)
noncomputable def lfT (c : Circ) (s r ls : List Int) : Nat → List Int
  | 0 => s
  | i + 1 => if onesT (valT c ((lfT c s r ls i).set i 2) r) ls = true then (lfT c s r ls i).set i 2 else lfT c s r ls i
section
variable {c : Circ} {s r ls : List Int}
theorem lfT_len : ∀ i, (lfT c s r ls i).length = s.length
  | 0 => rfl
  | i + 1 => by
    unfold lfT
    split
    · rw [List.length_set, lfT_len i]
    · exact lfT_len i
theorem lfT_row (hs : Row3 s) : ∀ i, Row3 (lfT c s r ls i)
  | 0 => hs
  | i + 1 => by
    unfold lfT
    split
    · exact (lfT_row hs i).set ⟨by decide, by decide⟩
    · exact lfT_row hs i
theorem lfT_late : ∀ i k : Nat, i ≤ k → gt (lfT c s r ls i) (k : Int) = gt s (k : Int)
  | 0, _, _ => rfl
  | i + 1, k, h => by
    unfold lfT
    split
    · by_cases hi : i < (lfT c s r ls i).length
      · rw [gt_set hi, if_neg (by omega)]
        exact lfT_late i k (by omega)
      · rw [gt_setN hi]
        exact lfT_late i k (by omega)
    · exact lfT_late i k (by omega)
end
end SC
end Go.Proofs.YtclihihdgodloaaDoor
end
section
/- Settle, Lift of both. -/
set_option linter.unusedVariables false
set_option linter.unusedSimpArgs false
namespace Go.Proofs.YtclihihdgodloaaDoor
namespace SC
open Go.Proofs
theorem Is3.two : Is3 2 := ⟨by decide, by decide⟩
/-- What is wrong with what is to be lifted. -/
noncomputable def lfE (c : Circ) (s r ls : List Int) : Int := if twE c s r ≠ 0 then twE c s r else if 16384 < ls.length then 2 else if (ls.all fun l => decide (0 ≤ l) && decide (l ≤ 2 * c.max + 1)) = false then 1 else if onesT (valT c s r) ls = false then 81 else 0
noncomputable def lfM (c : Circ) (s r ls : List Int) : List Int := if lfE c s r ls = 0 then lfT c s r ls s.length else []
theorem lfE_tw {c : Circ} {s r ls : List Int} (h : twE c s r ≠ 0) : lfE c s r ls = twE c s r := if_pos h
theorem lfE_long {c : Circ} {s r ls : List Int} (h : twE c s r = 0) (h2 : 16384 < ls.length) : lfE c s r ls = 2 := by unfold lfE; rw [if_neg (by omega), if_pos h2]
theorem lfE_rg {c : Circ} {s r ls : List Int} (h : twE c s r = 0) (h2 : ¬ 16384 < ls.length) (h3 : (ls.all fun l => decide (0 ≤ l) && decide (l ≤ 2 * c.max + 1)) = false) : lfE c s r ls = 1 := by unfold lfE; rw [if_neg (by omega), if_neg h2, if_pos h3]
theorem lfE_no {c : Circ} {s r ls : List Int} (h : twE c s r = 0) (h2 : ¬ 16384 < ls.length) (h3 : (ls.all fun l => decide (0 ≤ l) && decide (l ≤ 2 * c.max + 1)) = true) (h4 : onesT (valT c s r) ls = false) : lfE c s r ls = 81 := by unfold lfE; rw [if_neg (by omega), if_neg h2, if_neg (by rw [h3]; decide), if_pos h4]
theorem lfE_ok {c : Circ} {s r ls : List Int} (h : twE c s r = 0) (h2 : ¬ 16384 < ls.length) (h3 : (ls.all fun l => decide (0 ≤ l) && decide (l ≤ 2 * c.max + 1)) = true) (h4 : onesT (valT c s r) ls = true) : lfE c s r ls = 0 := by unfold lfE; rw [if_neg (by omega), if_neg h2, if_neg (by rw [h3]; decide), if_neg (by rw [h4]; decide)]
theorem lits_in {c : Circ} {ls : List Int} (h : (ls.all fun l => decide (0 ≤ l) && decide (l ≤ 2 * c.max + 1)) = true) : ∀ l ∈ ls, inR c l := fun l hl => by
  rw [List.all_eq_true] at h
  have := h l hl
  rw [Bool.and_eq_true, decide_eq_true_iff, decide_eq_true_iff] at this
  exact this
attribute [local irreducible] WC WL WX WS WO OX Does DoesU Enters CV Pure thenQ blockQ retQ Wants retQC GC GL GS GX RdB thenG blockG retG Rd At gt CVN CVM
set_option maxRecDepth 100000
set_option maxHeartbeats 800000 in
theorem SettleP_cv {w : World} {c : Circ} {h js : Hd} (G : TabG w) (H : CirIn w c h js) : CVN Tryd.prog 19 [.agg (ccells c h).toArray] w (SetV c) := by
  have hrd : ∀ Γ, In Γ (.old w none_) → ∀ w', Mem w' Γ → CVN Tryd.prog 48 [.agg (ccells c h).toArray] w' (ReadyT c h) := fun Γ hi w' M => readyT_cv (H.chg (hi.old M))
  have hInp := H.at_.inputs
  unfold SetV
  refine CVN.enter 42 [2, 3, 4] Tryd.func19 rfl rfl rfl (by decide) rfl ?_
  by_cases he : (lookM c).2 = 0
  · have R := right_of H.at_ H.sane he
    have n1 := R.nIn
    have n2 := R.nLat
    have m0 := R.m0
    have hSl := nS_le c
    have e1 : sM c = stT c (nS c) := if_pos he
    have e2 : sN c = (nS c : Int) := if_pos he
    have hRep : ∀ Γ b, In Γ (.box b 3 [nu 2]) → ∀ w', Mem w' Γ → CVN Tryd.prog 49 [.slice (some ⟨b, 0, none⟩) 1 1, nu c.inputs.length] w' fun r N => ∃ b, r = .slice (some ⟨b, 0, none⟩) (List.replicate c.inputs.length (2 : Int)).length c.inputs.length ∧ N = [.vec icell 1 3 (some ⟨b, 0, none⟩) c.inputs.length (List.replicate c.inputs.length 2)] := fun Γ b hi w' M => Repeat_cv (k := 1) (v := 2) (q := c.inputs.length) (RowA.blk (l := [2]) (fun _ => rfl) (hi.box M)) (by omega)
    have hrs : ∀ Γ, In Γ (.old w none_) → ∀ w', Mem w' Γ → CVN Tryd.prog 50 [.agg (ccells c h).toArray] w' _ := fun Γ hi w' M => resetsP_cv R (H.at_.chg (hi.old M))
    rw [he, e1, e2]
    repeat' (first
|(apply G_call;eq_refl;eq_refl;(apply hrd;(repeat first|exact In.here|apply In.there|apply In.skip));rintro _ _ (⟨he', rfl, rfl⟩|⟨_, p1, B1, kB, rfl, rfl⟩);(exact absurd he he'))
|(apply G_call;eq_refl;eq_refl;(apply hRep;(repeat first|exact In.here|apply In.there|apply In.skip));rintro _ _ ⟨b7, rfl, rfl⟩)
|(apply G_call;eq_refl;eq_refl;(apply hrs;(repeat first|exact In.here|apply In.there|apply In.skip));rintro _ _ ⟨A8, k8, rfl, rfl⟩)
|(apply GC_seqK;intro K hK)
|(apply hK;clear hK K)
|(apply GC_block)
|(apply GC_region)
|(apply GL_nil)
|(apply thenG_normal)
|(apply GC_skip)
|(apply GC_if_false;eq_refl)
|(apply GL_on;eq_refl;eq_refl)
|(apply G_pv;eq_refl;first|exact trivial|omega)
|(apply G_field;eq_refl)
|(apply G_ld;eq_refl;(repeat first|exact In.here|apply In.there|apply In.skip);eq_refl)
|(apply G_ldW;eq_refl;(repeat first|exact In.here|apply In.there|apply In.skip);eq_refl)
|(apply G_cmpF;eq_refl;eq_refl;omega)
|(apply G_len;eq_refl)
|(apply G_box;eq_refl;eq_refl;intro _)
|(apply G_new (fun b => .slice (some ⟨b, 0, none⟩) 1 1);eq_refl;(intro _;apply buildS22_1 <;> eq_refl);intro _))
    refine GC_loopK [5, 7] (fun s : Nat × Option Addr × Nat => [(8, .slice s.2.1 (stT c s.1).length s.2.2), (9, nu s.1)]) (fun s => [.vec icell 1 3 s.2.1 s.2.2 (stT c s.1), .vec icell 1 3 (some ⟨b7, 0, none⟩) c.inputs.length (List.replicate c.inputs.length 2), .box p1 103 (rcells c h B1 kB), .vec icell 1 3 B1 kB (ordM c), .old w none_]) (fun s => s.1 ≤ nS c) (fun s => nS c - s.1) (0, A8, k8) (by repeat first | exact Pick.nil | (apply Pick.cons; eq_refl)) (by repeat first | exact trivial | refine ⟨rfl, ?_⟩) (by repeat first | exact Wk.nil | exact Wk.refl | (apply Wk.cons; (focus ((repeat first | exact Rem.here | apply Rem.there | apply Rem.skip); done))) | apply Wk.nilv | apply Wk.last | apply Wk.drop) (Nat.zero_le _) ?_
    rintro ⟨n, A, k⟩ hn
    dsimp only at hn ⊢
    have hsl := stT_len c n
    have hsr := stT_row R n
    have hrl : (List.replicate c.inputs.length (2 : Int)).length = c.inputs.length := List.length_replicate
    have hvl := valT_len m0 (stT c n) (List.replicate c.inputs.length 2)
    have hvr := valT_row (c := c) hsr (open_row c.inputs.length) hsl hrl
    have hv : ∀ Γ, In Γ (.old w none_) → In Γ (.box p1 103 (rcells c h B1 kB)) → In Γ (.vec icell 1 3 B1 kB (ordM c)) → In Γ (.vec icell 1 3 A k (stT c n)) → In Γ (.vec icell 1 3 (some ⟨b7, 0, none⟩) c.inputs.length (List.replicate c.inputs.length 2)) → ∀ w', Mem w' Γ → CVN Tryd.prog 45 [pt p1, .slice A (stT c n).length k, .slice (some ⟨b7, 0, none⟩) (List.replicate c.inputs.length (2 : Int)).length c.inputs.length] w' _ := fun Γ hi hb ho ha hr w' M => valuesT_cv (G.chg (hi.old M)) R (hb.box M) (H.at_.chg (hi.old M)) (ho.row M) (ha.row M) (hr.row M) hsl hrl hsr (open_row _)
    have hnx : ∀ Γ A2 k2, In Γ (.old w none_) → In Γ (.box p1 103 (rcells c h B1 kB)) → In Γ (.vec icell 1 3 A2 k2 (valT c (stT c n) (List.replicate c.inputs.length 2))) → ∀ w', Mem w' Γ → CVN Tryd.prog 52 [pt p1, .slice A2 (valT c (stT c n) (List.replicate c.inputs.length 2)).length k2] w' _ := fun Γ A2 k2 hi hb hv w' M => nextT_cv (G.chg (hi.old M)) R (hb.box M) (H.at_.chg (hi.old M)) (hv.row M) hvr hvl
    have hj : ∀ Γ A2 k2, In Γ (.vec icell 1 3 A k (stT c n)) → In Γ (.vec icell 1 3 A2 k2 (nxtT c (valT c (stT c n) (List.replicate c.inputs.length 2)))) → ∀ w', Mem w' Γ → CVN Tryd.prog 51 [.slice A (stT c n).length k, .slice A2 (nxtT c (valT c (stT c n) (List.replicate c.inputs.length 2))).length k2] w' fun v N => ∃ A' k', v = .slice A' (stT c (n + 1)).length k' ∧ N = [.vec icell 1 3 A' k' (stT c (n + 1))] := fun Γ A2 k2 ha hb w' M => join3_cv (ha.row M) (hb.row M) (by rw [hsl]; unfold nxtT; rw [List.length_map]) (by omega)
    have hsl1 := stT_len c (n + 1)
    have hq : ∀ Γ A2 k2, In Γ (.vec icell 1 3 A k (stT c n)) → In Γ (.vec icell 1 3 A2 k2 (stT c (n + 1))) → ∀ w', Mem w' Γ → CVN Tryd.prog 53 [.slice A (stT c n).length k, .slice A2 (stT c (n + 1)).length k2] w' _ := fun Γ A2 k2 ha hb w' M => equalIntsG (ha.row M) (hb.row M) (by omega) (by omega)
    by_cases hf : n = nS c
    · have hd : decide (stT c n = stT c (n + 1)) = true := decide_eq_true (by subst hf; exact (nS_fix c).symm)
      rw [hd] at hq
      generalize stT c (n + 1) = S1 at *
      generalize valT c (stT c n) (List.replicate c.inputs.length 2) = V at *
      subst hf
      generalize stT c (nS c) = S0 at *
      repeat' (first
|(apply G_call;eq_refl;eq_refl;(apply hv;(repeat first|exact In.here|apply In.there|apply In.skip);(repeat first|exact In.here|apply In.there|apply In.skip);(repeat first|exact In.here|apply In.there|apply In.skip);(repeat first|exact In.here|apply In.there|apply In.skip);(repeat first|exact In.here|apply In.there|apply In.skip));rintro _ _ ⟨A33, k33, rfl, rfl⟩)
|(apply G_call;eq_refl;eq_refl;(apply hnx;(repeat first|exact In.here|apply In.there|apply In.skip);(repeat first|exact In.here|apply In.there|apply In.skip);(repeat first|exact In.here|apply In.there|apply In.skip));rintro _ _ ⟨A34, k34, rfl, rfl⟩)
|(apply G_call;eq_refl;eq_refl;(apply hj;(repeat first|exact In.here|apply In.there|apply In.skip);(repeat first|exact In.here|apply In.there|apply In.skip));rintro _ _ ⟨A35, k35, rfl, rfl⟩)
|(apply G_call;eq_refl;eq_refl;(apply hq;(repeat first|exact In.here|apply In.there|apply In.skip);(repeat first|exact In.here|apply In.there|apply In.skip));rintro _ _ ⟨rfl, rfl⟩)
|(apply GC_seqK;intro K hK)
|(apply hK;clear hK K)
|(apply GC_block)
|(apply GC_region)
|(apply GL_nil)
|(apply thenG_normal)
|(apply thenG_ret)
|(apply blockG_ret)
|(apply GC_ret)
|(apply GC_if_true;eq_refl)
|(apply retG3;eq_refl;eq_refl;eq_refl)
|(apply GL_on;eq_refl;eq_refl)
|(apply G_pv;eq_refl;first|exact trivial|omega))
      exact ⟨[.vec icell 1 3 A k S0], (by repeat first | exact Wk.nil | exact Wk.refl | (apply Wk.cons; (focus ((repeat first | exact Rem.here | apply Rem.there | apply Rem.skip); done))) | apply Wk.nilv | apply Wk.last | apply Wk.drop), _, _, rfl, rfl⟩
    · have hd : decide (stT c n = stT c (n + 1)) = false := decide_eq_false fun e => nS_not c (i := n) (by omega) e.symm
      rw [hd] at hq
      repeat' (first
|(apply G_call;eq_refl;eq_refl;(apply hv;(repeat first|exact In.here|apply In.there|apply In.skip);(repeat first|exact In.here|apply In.there|apply In.skip);(repeat first|exact In.here|apply In.there|apply In.skip);(repeat first|exact In.here|apply In.there|apply In.skip);(repeat first|exact In.here|apply In.there|apply In.skip));rintro _ _ ⟨A33, k33, rfl, rfl⟩)
|(apply G_call;eq_refl;eq_refl;(apply hnx;(repeat first|exact In.here|apply In.there|apply In.skip);(repeat first|exact In.here|apply In.there|apply In.skip);(repeat first|exact In.here|apply In.there|apply In.skip));rintro _ _ ⟨A34, k34, rfl, rfl⟩)
|(apply G_call;eq_refl;eq_refl;(apply hj;(repeat first|exact In.here|apply In.there|apply In.skip);(repeat first|exact In.here|apply In.there|apply In.skip));rintro _ _ ⟨A35, k35, rfl, rfl⟩)
|(apply G_call;eq_refl;eq_refl;(apply hq;(repeat first|exact In.here|apply In.there|apply In.skip);(repeat first|exact In.here|apply In.there|apply In.skip));rintro _ _ ⟨rfl, rfl⟩)
|(apply GC_seqK;intro K hK)
|(apply hK;clear hK K)
|(apply GC_block)
|(apply GC_region)
|(apply GL_nil)
|(apply thenG_normal)
|(apply blockG_normal)
|(apply GC_skip)
|(apply GC_if_false;eq_refl)
|(apply GL_on;eq_refl;eq_refl)
|(apply G_pv;eq_refl;first|exact trivial|omega))
      exact ⟨(n + 1, A35, k35), (by repeat first | exact trivial | refine ⟨rfl, ?_⟩), (by repeat first | exact Wk.nil | exact Wk.refl | (apply Wk.cons; (focus ((repeat first | exact Rem.here | apply Rem.there | apply Rem.skip); done))) | apply Wk.nilv | apply Wk.last | apply Wk.drop), by dsimp only; omega, by dsimp only; omega⟩
  · have e1 : sM c = [] := if_neg he
    have e2 : sN c = 0 := if_neg he
    rw [e1, e2]
    repeat' (first
|(apply G_call;eq_refl;eq_refl;(apply hrd;(repeat first|exact In.here|apply In.there|apply In.skip));rintro _ _ (⟨_, rfl, rfl⟩|⟨he', p1, B1, kB, rfl, rfl⟩);rotate_left;(exact absurd he' he))
|(apply GC_seqK;intro K hK)
|(apply hK;clear hK K)
|(apply GC_region)
|(apply GL_nil)
|(apply thenG_normal)
|(apply thenG_ret)
|(apply GC_ret)
|(apply GC_if_true;eq_refl)
|(apply retG3;eq_refl;eq_refl;eq_refl)
|(apply GL_on;eq_refl;eq_refl)
|(apply G_pv;eq_refl;first|exact trivial|omega)
|(apply G_ldW;eq_refl;(repeat first|exact In.here|apply In.there|apply In.skip);eq_refl)
|(apply G_cmpT;eq_refl;eq_refl;omega)
|(apply G_box;eq_refl;eq_refl;intro _))
    exact ⟨[.vec icell 1 3 none 0 []], (by repeat first | exact Wk.nil | exact Wk.refl | (apply Wk.cons; (focus ((repeat first | exact Rem.here | apply Rem.there | apply Rem.skip); done))) | apply Wk.nilv | apply Wk.last | apply Wk.drop), none, 0, rfl, rfl⟩
end SC
end Go.Proofs.YtclihihdgodloaaDoor
end
section
/- Lift of both. -/
set_option linter.unusedVariables false
set_option linter.unusedSimpArgs false
namespace Go.Proofs.YtclihihdgodloaaDoor
namespace SC
open Go.Proofs
theorem ones_any (v ls : List Int) : (ls.any fun l => !decide (tl v l = 1)) = !onesT v ls := by unfold onesT; rw [List.not_all_eq_any_not]
theorem lf_back {c : Circ} {s r ls : List Int} {i : Nat} (h : i < s.length) : ((lfT c s r ls i).set (i : Int).toNat 2).set (i : Int).toNat (gt s (i : Int)) = lfT c s r ls i := by
  have hl := lfT_len (c := c) (s := s) (r := r) (ls := ls) i
  rw [List.set_set, Int.toNat_natCast, ← lfT_late (c := c) (r := r) (ls := ls) i i (Nat.le_refl _), gt_nat (by omega), List.set_getElem_self]
theorem lf_yes {c : Circ} {s r ls : List Int} {i : Nat} (h : onesT (valT c ((lfT c s r ls i).set (i : Int).toNat 2) r) ls = true) : lfT c s r ls (i + 1) = (lfT c s r ls i).set (i : Int).toNat 2 := by
  rw [Int.toNat_natCast] at h ⊢
  exact if_pos h
theorem lf_no {c : Circ} {s r ls : List Int} {i : Nat} (h : onesT (valT c ((lfT c s r ls i).set (i : Int).toNat 2) r) ls = false) : lfT c s r ls (i + 1) = lfT c s r ls i := by
  rw [Int.toNat_natCast] at h
  exact if_neg (by rw [h]; decide)
attribute [local irreducible] WC WL WX WS WO OX Does DoesU Enters CV Pure thenQ blockQ retQ Wants retQC GC GL GS GX RdB thenG blockG retG Rd At gt CVN CVM
set_option maxRecDepth 100000
theorem wrong1_cv {w : World} {b k : Nat} {A : Option Addr} {v : List Int} {l : Int} (G : TabG w) (hB : Blk w b 22 [.slice A v.length k]) (hA : RowA w icell 1 A v) (h3 : Row3 v) (h0 : 0 ≤ l / 2) (h1 : l / 2 < v.length) (hl : v.length ≤ 1000000) : CVN Tryd.prog 42 [nu l, pt b] w fun r N => N = [] ∧ r = .bool (!decide (tl v l = 1)) := by
  have hof : ∀ Γ, In Γ (.old w none_) → ∀ w', Mem w' Γ → CVN Tryd.prog 43 [.slice A v.length k, nu l] w' _ := fun Γ ho w' M => of3_cv (G.chg (ho.old M)) (hA.chg (ho.old M)) rfl h3 h0 h1 hl
  generalize tl v l = x at *
  refine CVN.enter 8 [3] Tryd.func42 rfl rfl rfl (by decide) rfl ?_
  by_cases hx : x = 1
  · rw [decide_eq_true hx]
    repeat' (first
|(apply G_call;eq_refl;eq_refl;(apply hof;(repeat first|exact In.here|apply In.there|apply In.skip));rintro _ _ ⟨rfl, rfl⟩)
|(apply GC_seqK;intro K hK)
|(apply hK;clear hK K)
|(apply GC_region)
|(apply GL_nil)
|(apply thenG_normal)
|(apply GC_ret)
|(apply retG1;eq_refl)
|(apply GL_on;eq_refl;eq_refl)
|(apply G_pv;eq_refl;first|exact trivial|omega)
|(apply G_ldO;eq_refl;(repeat first|exact In.here|apply In.there|apply In.skip);assumption;eq_refl)
|(apply G_cmpF;eq_refl;eq_refl;omega))
    exact ⟨[], (by repeat first | exact Wk.nil | exact Wk.refl | (apply Wk.cons; (focus ((repeat first | exact Rem.here | apply Rem.there | apply Rem.skip); done))) | apply Wk.nilv | apply Wk.last | apply Wk.drop), rfl, rfl⟩
  · rw [decide_eq_false hx]
    repeat' (first
|(apply G_call;eq_refl;eq_refl;(apply hof;(repeat first|exact In.here|apply In.there|apply In.skip));rintro _ _ ⟨rfl, rfl⟩)
|(apply GC_seqK;intro K hK)
|(apply hK;clear hK K)
|(apply GC_region)
|(apply GL_nil)
|(apply thenG_normal)
|(apply GC_ret)
|(apply retG1;eq_refl)
|(apply GL_on;eq_refl;eq_refl)
|(apply G_pv;eq_refl;first|exact trivial|omega)
|(apply G_ldO;eq_refl;(repeat first|exact In.here|apply In.there|apply In.skip);assumption;eq_refl)
|(apply G_cmpT;eq_refl;eq_refl;omega))
    exact ⟨[], (by repeat first | exact Wk.nil | exact Wk.refl | (apply Wk.cons; (focus ((repeat first | exact Rem.here | apply Rem.there | apply Rem.skip); done))) | apply Wk.nilv | apply Wk.last | apply Wk.drop), rfl, rfl⟩
theorem wrong_cv {w : World} {b k kL : Nat} {A L : Option Addr} {v ls : List Int} (G : TabG w) (hB : Blk w b 22 [.slice L ls.length kL]) (hL : RowA w icell 1 L ls) (hA : RowA w icell 1 A v) (h3 : Row3 v) (hls : ∀ l ∈ ls, 0 ≤ l / 2 ∧ l / 2 < v.length) (hl : v.length ≤ 1000000) (hn : ls.length ≤ 16384) : CVN Tryd.prog 40 [.slice A v.length k, pt b] w fun r N => N = [] ∧ r = .bool (!onesT v ls) := by
  have hcf : ∀ Γ b2, In Γ (.old w none_) → In Γ (.box b2 22 [.slice A v.length k]) → ∀ w', Mem w' Γ → CVN Tryd.prog 41 [.slice L ls.length kL, .func (.func 42) #[] #[pt b2]] w' fun r N => N = [] ∧ r = .bool (!onesT v ls) := fun Γ b2 ho hb w' M => by
    have := containsFunc_cv (f := 42) (cap := #[pt b2]) (p := fun l => !decide (tl v l = 1)) (k := kL) (hL.chg (ho.old M)) (by omega) fun l hm w2 hc => wrong1_cv ((G.chg (ho.old M)).chg hc) ((hb.box M).chg hc id) ((hA.chg (ho.old M)).chg hc) h3 (hls l hm).1 (hls l hm).2 hl
    rwa [ones_any] at this
  refine CVN.enter 7 [3] Tryd.func40 rfl rfl rfl (by decide) rfl ?_
  repeat' (first
|(apply G_call;eq_refl;eq_refl;(apply hcf;(repeat first|exact In.here|apply In.there|apply In.skip);(repeat first|exact In.here|apply In.there|apply In.skip));rintro _ _ ⟨rfl, rfl⟩)
|(apply GC_seqK;intro K hK)
|(apply hK;clear hK K)
|(apply GC_region)
|(apply GL_nil)
|(apply thenG_normal)
|(apply GC_ret)
|(apply retG1;eq_refl)
|(apply GL_on;eq_refl;eq_refl)
|(apply G_pv;eq_refl;first|exact trivial|omega)
|(apply G_ldO;eq_refl;(repeat first|exact In.here|apply In.there|apply In.skip);assumption;eq_refl)
|(apply G_box;eq_refl;eq_refl;intro _)
|(apply G_fun;eq_refl))
  exact ⟨[], (by repeat first | exact Wk.nil | exact Wk.refl | (apply Wk.cons; (focus ((repeat first | exact Rem.here | apply Rem.there | apply Rem.skip); done))) | apply Wk.nilv | apply Wk.last | apply Wk.drop), rfl, rfl⟩
section
variable {w : World} {c : Circ} {h js : Hd} {S T L : Option Addr} {k2 k3 k4 : Nat} {s r ls : List Int} (H : CirIn w c h js) (hS : RowA w icell 1 S s) (hT : RowA w icell 1 T r) (hL : RowA w icell 1 L ls) (hs : s.length ≤ 17592186044000) (hr : r.length ≤ 9223372036854775807) (hl : ls.length ≤ 9223372036854775807)
include H hS hT hL hs hr hl
set_option maxHeartbeats 1600000 in
theorem LiftP_cv (G : TabG w) : CVN Tryd.prog 12 [.agg (ccells c h).toArray, .slice S s.length k2, .slice T r.length k3, .slice L ls.length k4] w (IntsE (lfM c s r ls) (lfE c s r ls)) := by
  have hlk : ∀ Γ, In Γ (.old w none_) → ∀ w', Mem w' Γ → CVN Tryd.prog 39 [.agg (ccells c h).toArray, .slice S s.length k2, .slice T r.length k3] w' (LookedT c h s r) := fun Γ hi w' M => lookedT_cv (G.chg (hi.old M)) (H.chg (hi.old M)) (hS.chg (hi.old M)) (hT.chg (hi.old M)) (by omega) hr
  have hcl : ∀ Γ, In Γ (.old w none_) → ∀ w', Mem w' Γ → CVN Tryd.prog 44 [.slice S s.length k2] w' _ := fun Γ hi w' M => cloneI_cv (hS.chg (hi.old M)) hs
  unfold IntsE
  refine CVN.enter 78 [8, 9] Tryd.func12 rfl rfl rfl (by decide) rfl ?_
  by_cases ht : twE c s r = 0
  · obtain ⟨z0, ⟨z1, z2⟩, z3, z4⟩ := twE_zero ht
    have R := right_of H.at_ H.sane z0
    have m0 := R.m0
    have m1 := R.m1
    have n1 := R.nIn
    have n2 := R.nLat
    by_cases hlg : 16384 < ls.length
    · have e0 := lfE_long (ls := ls) ht hlg
      have e1 : lfM c s r ls = [] := if_neg (by rw [e0]; decide)
      rw [e0, e1]
      repeat' (first
|(apply G_call;eq_refl;eq_refl;(apply hlk;(repeat first|exact In.here|apply In.there|apply In.skip));rintro _ _ (⟨he, rfl, rfl⟩|⟨_, p1, B1, k1, A1, k5, rfl, rfl⟩);(exact absurd ht he))
|(apply GC_seqK;intro K hK)
|(apply hK;clear hK K)
|(apply GC_region)
|(apply GL_nil)
|(apply thenG_normal)
|(apply thenG_ret)
|(apply GC_ret)
|(apply GC_skip)
|(apply GC_if_true;eq_refl)
|(apply GC_if_false;eq_refl)
|(apply retG2;eq_refl;eq_refl)
|(apply GL_on;eq_refl;eq_refl)
|(apply G_pv;eq_refl;first|exact trivial|omega)
|(apply G_ld;eq_refl;(repeat first|exact In.here|apply In.there|apply In.skip);eq_refl)
|(apply G_ldW;eq_refl;(repeat first|exact In.here|apply In.there|apply In.skip);eq_refl)
|(apply G_cmpT;eq_refl;eq_refl;omega)
|(apply G_cmpF;eq_refl;eq_refl;omega)
|(apply G_len;eq_refl)
|(apply G_box;eq_refl;eq_refl;intro _))
      exact ⟨[.vec icell 1 3 none 0 []], (by repeat first | exact Wk.nil | exact Wk.refl | (apply Wk.cons; (focus ((repeat first | exact Rem.here | apply Rem.there | apply Rem.skip); done))) | apply Wk.nilv | apply Wk.last | apply Wk.drop), none, 0, rfl, rfl⟩
    · repeat' (first
|(apply G_call;eq_refl;eq_refl;(apply hlk;(repeat first|exact In.here|apply In.there|apply In.skip));rintro _ _ (⟨he, rfl, rfl⟩|⟨_, p1, B1, k1, A1, k5, rfl, rfl⟩);(exact absurd ht he))
|(apply GC_seqK;intro K hK)
|(apply hK;clear hK K)
|(apply GC_block)
|(apply GC_region)
|(apply GL_nil)
|(apply thenG_normal)
|(apply GC_skip)
|(apply GC_if_false;eq_refl)
|(apply GL_on;eq_refl;eq_refl)
|(apply G_pv;eq_refl;first|exact trivial|omega)
|(apply G_ld;eq_refl;(repeat first|exact In.here|apply In.there|apply In.skip);eq_refl)
|(apply G_ldW;eq_refl;(repeat first|exact In.here|apply In.there|apply In.skip);eq_refl)
|(apply G_cmpF;eq_refl;eq_refl;omega)
|(apply G_len;eq_refl)
|(apply G_box;eq_refl;eq_refl;intro _))
      rename_i b4 b7 hz9
      have hvl := valT_len m0 s r
      have hvr := valT_row (c := c) z2 z4 z1 z3
      refine GC_loopK [1, 2, 4, 7, 10, 11, 33, 34] (fun i : Nat => [(35, nu i)]) (fun _ => [.vec icell 1 3 A1 k5 (valT c s r), .box p1 103 (rcells c h B1 k1), .vec icell 1 3 B1 k1 (ordM c), .box b7 22 [.slice L ls.length k4], .box b4 29 (ccells c h), .old w none_]) (fun i => i ≤ ls.length ∧ ((ls.take i).all fun l => decide (0 ≤ l) && decide (l ≤ 2 * c.max + 1)) = true) (fun i => ls.length - i) 0 (by repeat first | exact Pick.nil | (apply Pick.cons; eq_refl)) (by repeat first | exact trivial | refine ⟨rfl, ?_⟩) (by repeat first | exact Wk.nil | exact Wk.refl | (apply Wk.cons; (focus ((repeat first | exact Rem.here | apply Rem.there | apply Rem.skip); done))) | apply Wk.nilv | apply Wk.last | apply Wk.drop) ⟨Nat.zero_le _, by simp⟩ ?_
      rintro i ⟨hi, hall⟩
      rcases Nat.lt_or_ge i ls.length with hlt | hge
      · have e5 := List.take_succ_eq_append_getElem hlt
        rw [← gt_nat hlt] at e5
        have g1 := gt_mem (l := ls) (i := (i : Int)) (by omega) (by omega)
        by_cases h0 : 0 ≤ gt ls (i : Int) ∧ gt ls (i : Int) ≤ 2 * c.max + 1
        · repeat' (first
|(apply GC_seqK;intro K hK)
|(apply hK;clear hK K)
|(apply GC_block)
|(apply GC_region)
|(apply GL_nil)
|(apply thenG_normal)
|(apply blockG_normal)
|(apply GC_skip)
|(apply GC_if_true;eq_refl)
|(apply GC_if_false;eq_refl)
|(apply GL_on;eq_refl;eq_refl)
|(apply G_pv;eq_refl;first|exact trivial|omega)
|(apply G_field;eq_refl)
|(apply G_ld;eq_refl;(repeat first|exact In.here|apply In.there|apply In.skip);eq_refl)
|(apply G_rd;eq_refl;(first|(apply Rd.own;(repeat first|exact In.here|apply In.there|apply In.skip);infer_instance)|(apply Rd.old;(repeat first|exact In.here|apply In.there|apply In.skip);assumption)|(apply Rd.oldR;(repeat first|exact In.here|apply In.there|apply In.skip);assumption)|exact Rd.nil|assumption);(case ih => infer_instance);omega;omega;eq_refl)
|(apply G_cmpT;eq_refl;eq_refl;omega)
|(apply G_cmpF;eq_refl;eq_refl;omega)
|(apply G_ix;eq_refl;eq_refl;(first|(apply Rd.own;(repeat first|exact In.here|apply In.there|apply In.skip);infer_instance)|(apply Rd.old;(repeat first|exact In.here|apply In.there|apply In.skip);assumption)|(apply Rd.oldR;(repeat first|exact In.here|apply In.there|apply In.skip);assumption)|exact Rd.nil|assumption);(first|eq_refl|omega);omega;omega))
          exact ⟨i + 1, (by repeat first | exact trivial | refine ⟨rfl, ?_⟩), (by repeat first | exact Wk.nil | exact Wk.refl | (apply Wk.cons; (focus ((repeat first | exact Rem.here | apply Rem.there | apply Rem.skip); done))) | apply Wk.nilv | apply Wk.last | apply Wk.drop), ⟨hlt, by rw [e5, List.all_append, hall]; simp [h0.1, h0.2]⟩, by omega⟩
        · have hf : (ls.all fun l => decide (0 ≤ l) && decide (l ≤ 2 * c.max + 1)) = false := by
            cases hb : (ls.all fun l => decide (0 ≤ l) && decide (l ≤ 2 * c.max + 1))
            · rfl
            · exact absurd (lits_in hb _ g1) h0
          have e0 := lfE_rg ht hlg hf
          have e1 : lfM c s r ls = [] := if_neg (by rw [e0]; decide)
          by_cases h1 : gt ls (i : Int) < 0
          · repeat' (first
|(apply GC_seqK;intro K hK)
|(apply hK;clear hK K)
|(apply GC_block)
|(apply GC_region)
|(apply GL_nil)
|(apply thenG_normal)
|(apply thenG_ret)
|(apply blockG_ret)
|(apply GC_ret)
|(apply GC_skip)
|(apply GC_if_true;eq_refl)
|(apply retG2;eq_refl;eq_refl)
|(apply GL_on;eq_refl;eq_refl)
|(apply GL_off;eq_refl;eq_refl)
|(apply G_pv;eq_refl;first|exact trivial|omega)
|(apply G_rd;eq_refl;(first|(apply Rd.own;(repeat first|exact In.here|apply In.there|apply In.skip);infer_instance)|(apply Rd.old;(repeat first|exact In.here|apply In.there|apply In.skip);assumption)|(apply Rd.oldR;(repeat first|exact In.here|apply In.there|apply In.skip);assumption)|exact Rd.nil|assumption);(case ih => infer_instance);omega;omega;eq_refl)
|(apply G_cmpT;eq_refl;eq_refl;omega)
|(apply G_ix;eq_refl;eq_refl;(first|(apply Rd.own;(repeat first|exact In.here|apply In.there|apply In.skip);infer_instance)|(apply Rd.old;(repeat first|exact In.here|apply In.there|apply In.skip);assumption)|(apply Rd.oldR;(repeat first|exact In.here|apply In.there|apply In.skip);assumption)|exact Rd.nil|assumption);(first|eq_refl|omega);omega;omega))
            exact ⟨[.vec icell 1 3 none 0 []], (by repeat first | exact Wk.nil | exact Wk.refl | (apply Wk.cons; (focus ((repeat first | exact Rem.here | apply Rem.there | apply Rem.skip); done))) | apply Wk.nilv | apply Wk.last | apply Wk.drop), none, 0, by rw [e0, e1]; rfl, by rw [e1]⟩
          · repeat' (first
|(apply GC_seqK;intro K hK)
|(apply hK;clear hK K)
|(apply GC_block)
|(apply GC_region)
|(apply GL_nil)
|(apply thenG_normal)
|(apply thenG_ret)
|(apply blockG_ret)
|(apply GC_ret)
|(apply GC_skip)
|(apply GC_if_true;eq_refl)
|(apply retG2;eq_refl;eq_refl)
|(apply GL_on;eq_refl;eq_refl)
|(apply G_pv;eq_refl;first|exact trivial|omega)
|(apply G_field;eq_refl)
|(apply G_ld;eq_refl;(repeat first|exact In.here|apply In.there|apply In.skip);eq_refl)
|(apply G_rd;eq_refl;(first|(apply Rd.own;(repeat first|exact In.here|apply In.there|apply In.skip);infer_instance)|(apply Rd.old;(repeat first|exact In.here|apply In.there|apply In.skip);assumption)|(apply Rd.oldR;(repeat first|exact In.here|apply In.there|apply In.skip);assumption)|exact Rd.nil|assumption);(case ih => infer_instance);omega;omega;eq_refl)
|(apply G_cmpT;eq_refl;eq_refl;omega)
|(apply G_cmpF;eq_refl;eq_refl;omega)
|(apply G_ix;eq_refl;eq_refl;(first|(apply Rd.own;(repeat first|exact In.here|apply In.there|apply In.skip);infer_instance)|(apply Rd.old;(repeat first|exact In.here|apply In.there|apply In.skip);assumption)|(apply Rd.oldR;(repeat first|exact In.here|apply In.there|apply In.skip);assumption)|exact Rd.nil|assumption);(first|eq_refl|omega);omega;omega))
            exact ⟨[.vec icell 1 3 none 0 []], (by repeat first | exact Wk.nil | exact Wk.refl | (apply Wk.cons; (focus ((repeat first | exact Rem.here | apply Rem.there | apply Rem.skip); done))) | apply Wk.nilv | apply Wk.last | apply Wk.drop), none, 0, by rw [e0, e1]; rfl, by rw [e1]⟩
      · rw [List.take_of_length_le hge] at hall
        have hin := lits_in hall
        have hls : ∀ l ∈ ls, 0 ≤ l / 2 ∧ l / 2 < ((c.max + 1).toNat : Int) := fun l hm => by have := hin l hm; unfold inR at this; omega
        have hwr : ∀ Γ A k v, In Γ (.old w none_) → In Γ (.box b7 22 [.slice L ls.length k4]) → In Γ (.vec icell 1 3 A k v) → Row3 v → v.length = (c.max + 1).toNat → ∀ w', Mem w' Γ → CVN Tryd.prog 40 ([.slice A v.length k] ++ (#[pt b7] : Array Value).toList) w' fun r N => N = [] ∧ r = .bool (!onesT v ls) := fun Γ A k v ho hb hv q1 q2 w' M => wrong_cv (G.chg (ho.old M)) (hb.box M) (hL.chg (ho.old M)) (hv.row M) q1 (fun l hm => by rw [q2]; exact hls l hm) (by omega) (by omega)
        have hw0 := fun Γ ho hb hv w' M => hwr Γ A1 k5 (valT c s r) ho hb hv hvr hvl w' M
        cases ho1 : onesT (valT c s r) ls
        · have e0 := lfE_no ht hlg hall ho1
          have e1 : lfM c s r ls = [] := if_neg (by rw [e0]; decide)
          rw [ho1] at hw0
          repeat' (first
|(apply G_callF;eq_refl;eq_refl;infer_instance;eq_refl;(apply hw0;(repeat first|exact In.here|apply In.there|apply In.skip);(repeat first|exact In.here|apply In.there|apply In.skip);(repeat first|exact In.here|apply In.there|apply In.skip));rintro _ _ ⟨rfl, rfl⟩)
|(apply GC_seqK;intro K hK)
|(apply hK;clear hK K)
|(clear hK K;apply hK;clear hK K)
|(apply GC_region)
|(apply GL_nil)
|(apply thenG_normal)
|(apply thenG_ret)
|(apply thenG_exit)
|(apply blockG_hit)
|(apply GC_ret)
|(apply GC_exit)
|(apply GC_if_true;eq_refl)
|(apply GC_if_false;eq_refl)
|(apply retG2;eq_refl;eq_refl)
|(apply GL_on;eq_refl;eq_refl)
|(apply G_pv;eq_refl;first|exact trivial|omega)
|(apply G_cmpF;eq_refl;eq_refl;omega)
|(apply G_fun;eq_refl))
          exact ⟨[.vec icell 1 3 none 0 []], (by repeat first | exact Wk.nil | exact Wk.refl | (apply Wk.cons; (focus ((repeat first | exact Rem.here | apply Rem.there | apply Rem.skip); done))) | apply Wk.nilv | apply Wk.last | apply Wk.drop), none, 0, by rw [e0, e1]; rfl, by rw [e1]⟩
        · have e0 := lfE_ok ht hlg hall ho1
          have e1 : lfM c s r ls = lfT c s r ls s.length := if_pos e0
          rw [ho1] at hw0
          repeat' (first
|(apply G_callF;eq_refl;eq_refl;infer_instance;eq_refl;(apply hw0;(repeat first|exact In.here|apply In.there|apply In.skip);(repeat first|exact In.here|apply In.there|apply In.skip);(repeat first|exact In.here|apply In.there|apply In.skip));rintro _ _ ⟨rfl, rfl⟩)
|(apply G_call;eq_refl;eq_refl;(apply hcl;(repeat first|exact In.here|apply In.there|apply In.skip));rintro _ _ ⟨A16, k16, rfl, rfl⟩)
|(apply GC_seqK;intro K hK)
|(apply hK;clear hK K)
|(clear hK K;apply hK;clear hK K)
|(apply GC_block)
|(apply GC_region)
|(apply GL_nil)
|(apply thenG_normal)
|(apply thenG_exit)
|(apply blockG_hit)
|(apply GC_exit)
|(apply GC_skip)
|(apply GC_if_false;eq_refl)
|(apply GL_on;eq_refl;eq_refl)
|(apply G_pv;eq_refl;first|exact trivial|omega)
|(apply G_cmpF;eq_refl;eq_refl;omega)
|(apply G_len;eq_refl)
|(apply G_fun;eq_refl))
          refine GC_loopK [2, 10, 15, 16, 56, 57] (fun i : Nat => [(58, nu i)]) (fun i => [.vec icell 1 3 A16 k16 (lfT c s r ls i), .box p1 103 (rcells c h B1 k1), .vec icell 1 3 B1 k1 (ordM c), .box b7 22 [.slice L ls.length k4], .old w none_]) (fun i => i ≤ s.length) (fun i => s.length - i) 0 (by repeat first | exact Pick.nil | (apply Pick.cons; eq_refl)) (by repeat first | exact trivial | refine ⟨rfl, ?_⟩) (by repeat first | exact Wk.nil | exact Wk.refl | (apply Wk.cons; (focus ((repeat first | exact Rem.here | apply Rem.there | apply Rem.skip); done))) | apply Wk.nilv | apply Wk.last | apply Wk.drop) (Nat.zero_le _) ?_
          intro i hi
          have hol := lfT_len (c := c) (s := s) (r := r) (ls := ls) i
          rcases Nat.lt_or_ge i s.length with hlt | hge
          · have hor := lfT_row (c := c) (r := r) (ls := ls) z2 i
            have hbk := lf_back (c := c) (r := r) (ls := ls) hlt
            have hyes := lf_yes (c := c) (s := s) (r := r) (ls := ls) (i := i)
            have hno := lf_no (c := c) (s := s) (r := r) (ls := ls) (i := i)
            generalize hO : lfT c s r ls i = O at *
            have hl2 : (O.set (i : Int).toNat 2).length = s.length := by rw [List.length_set]; exact hol
            have hr2 : Row3 (O.set (i : Int).toNat 2) := hor.set Is3.two
            have hvl2 := valT_len m0 (O.set (i : Int).toNat 2) r
            have hvr2 := valT_row (c := c) hr2 z4 (by omega) z3
            have hv : ∀ Γ, In Γ (.old w none_) → In Γ (.box p1 103 (rcells c h B1 k1)) → In Γ (.vec icell 1 3 B1 k1 (ordM c)) → In Γ (.vec icell 1 3 A16 k16 (O.set (i : Int).toNat 2)) → ∀ w', Mem w' Γ → CVN Tryd.prog 45 [pt p1, .slice A16 s.length k16, .slice T r.length k3] w' _ := fun Γ hi hb ho ha w' M => by
              have := valuesT_cv (k2 := k16) (k3 := k3) (G.chg (hi.old M)) R (hb.box M) (H.at_.chg (hi.old M)) (ho.row M) (ha.row M) (hT.chg (hi.old M)) (by omega) z3 hr2 z4
              rw [hl2] at this
              exact this
            generalize hV : valT c (O.set (i : Int).toNat 2) r = V at *
            have hw1 := fun Γ A k ho hb hv w' M => hwr Γ A k V ho hb hv hvr2 hvl2 w' M
            cases ho2 : onesT V ls
            · have e6 := hno ho2
              rw [ho2] at hw1
              repeat' (first
|(apply G_call;eq_refl;eq_refl;(apply hv;(repeat first|exact In.here|apply In.there|apply In.skip);(repeat first|exact In.here|apply In.there|apply In.skip);(repeat first|exact In.here|apply In.there|apply In.skip);(repeat first|exact In.here|apply In.there|apply In.skip));rintro _ _ ⟨A70, k70, rfl, rfl⟩)
|(apply G_callF;eq_refl;eq_refl;infer_instance;eq_refl;(apply hw1;(repeat first|exact In.here|apply In.there|apply In.skip);(repeat first|exact In.here|apply In.there|apply In.skip);(repeat first|exact In.here|apply In.there|apply In.skip));rintro _ _ ⟨rfl, rfl⟩)
|(apply GC_seqK;intro K hK)
|(apply hK;clear hK K)
|(apply GC_block)
|(apply GC_region)
|(apply GL_nil)
|(apply thenG_normal)
|(apply blockG_normal)
|(apply GC_skip)
|(apply GC_if_true;eq_refl)
|(apply GL_on;eq_refl;eq_refl)
|(apply G_pv;eq_refl;first|exact trivial|omega)
|(apply G_rd;eq_refl;(first|(apply Rd.own;(repeat first|exact In.here|apply In.there|apply In.skip);infer_instance)|(apply Rd.old;(repeat first|exact In.here|apply In.there|apply In.skip);assumption)|(apply Rd.oldR;(repeat first|exact In.here|apply In.there|apply In.skip);assumption)|exact Rd.nil|assumption);(case ih => infer_instance);omega;omega;eq_refl)
|(apply G_cmpT;eq_refl;eq_refl;omega)
|(apply G_ix;eq_refl;eq_refl;(first|(apply Rd.own;(repeat first|exact In.here|apply In.there|apply In.skip);infer_instance)|(apply Rd.old;(repeat first|exact In.here|apply In.there|apply In.skip);assumption)|(apply Rd.oldR;(repeat first|exact In.here|apply In.there|apply In.skip);assumption)|exact Rd.nil|assumption);(first|eq_refl|omega);omega;omega)
|(apply G_stV;(first|exact wr_p|kernel_rfl);eq_refl;eq_refl;eq_refl;eq_refl;(repeat first|exact Upd.here|apply Upd.there|apply Upd.skip);infer_instance;infer_instance;eq_refl;omega;(try simp only [List.length_set, List.length_append, List.length_replicate]);omega))
              rw [hbk, ← e6]
              exact ⟨i + 1, (by repeat first | exact trivial | refine ⟨rfl, ?_⟩), (by repeat first | exact Wk.nil | exact Wk.refl | (apply Wk.cons; (focus ((repeat first | exact Rem.here | apply Rem.there | apply Rem.skip); done))) | apply Wk.nilv | apply Wk.last | apply Wk.drop), hlt, by omega⟩
            · have e6 := hyes ho2
              rw [ho2] at hw1
              repeat' (first
|(apply G_call;eq_refl;eq_refl;(apply hv;(repeat first|exact In.here|apply In.there|apply In.skip);(repeat first|exact In.here|apply In.there|apply In.skip);(repeat first|exact In.here|apply In.there|apply In.skip);(repeat first|exact In.here|apply In.there|apply In.skip));rintro _ _ ⟨A70, k70, rfl, rfl⟩)
|(apply G_callF;eq_refl;eq_refl;infer_instance;eq_refl;(apply hw1;(repeat first|exact In.here|apply In.there|apply In.skip);(repeat first|exact In.here|apply In.there|apply In.skip);(repeat first|exact In.here|apply In.there|apply In.skip));rintro _ _ ⟨rfl, rfl⟩)
|(apply GC_seqK;intro K hK)
|(apply hK;clear hK K)
|(apply GC_block)
|(apply GC_region)
|(apply GL_nil)
|(apply thenG_normal)
|(apply blockG_normal)
|(apply GC_skip)
|(apply GC_if_true;eq_refl)
|(apply GC_if_false;eq_refl)
|(apply GL_on;eq_refl;eq_refl)
|(apply G_pv;eq_refl;first|exact trivial|omega)
|(apply G_rd;eq_refl;(first|(apply Rd.own;(repeat first|exact In.here|apply In.there|apply In.skip);infer_instance)|(apply Rd.old;(repeat first|exact In.here|apply In.there|apply In.skip);assumption)|(apply Rd.oldR;(repeat first|exact In.here|apply In.there|apply In.skip);assumption)|exact Rd.nil|assumption);(case ih => infer_instance);omega;omega;eq_refl)
|(apply G_cmpT;eq_refl;eq_refl;omega)
|(apply G_ix;eq_refl;eq_refl;(first|(apply Rd.own;(repeat first|exact In.here|apply In.there|apply In.skip);infer_instance)|(apply Rd.old;(repeat first|exact In.here|apply In.there|apply In.skip);assumption)|(apply Rd.oldR;(repeat first|exact In.here|apply In.there|apply In.skip);assumption)|exact Rd.nil|assumption);(first|eq_refl|omega);omega;omega)
|(apply G_stV;(first|exact wr_p|kernel_rfl);eq_refl;eq_refl;eq_refl;eq_refl;(repeat first|exact Upd.here|apply Upd.there|apply Upd.skip);infer_instance;infer_instance;eq_refl;omega;(try simp only [List.length_set, List.length_append, List.length_replicate]);omega))
              rw [← e6]
              exact ⟨i + 1, (by repeat first | exact trivial | refine ⟨rfl, ?_⟩), (by repeat first | exact Wk.nil | exact Wk.refl | (apply Wk.cons; (focus ((repeat first | exact Rem.here | apply Rem.there | apply Rem.skip); done))) | apply Wk.nilv | apply Wk.last | apply Wk.drop), hlt, by omega⟩
          · obtain rfl : i = s.length := by omega
            repeat' (first
|(apply GC_seqK;intro K hK)
|(apply hK;clear hK K)
|(clear hK K;apply hK;clear hK K)
|(apply GC_region)
|(apply GL_nil)
|(apply thenG_normal)
|(apply thenG_exit)
|(apply blockG_hit)
|(apply GC_ret)
|(apply GC_exit)
|(apply GC_if_false;eq_refl)
|(apply retG2;eq_refl;eq_refl)
|(apply GL_on;eq_refl;eq_refl)
|(apply G_pv;eq_refl;first|exact trivial|omega)
|(apply G_cmpF;eq_refl;eq_refl;omega))
            refine ⟨[.vec icell 1 3 A16 k16 (lfT c s r ls s.length)], (by repeat first | exact Wk.nil | exact Wk.refl | (apply Wk.cons; (focus ((repeat first | exact Rem.here | apply Rem.there | apply Rem.skip); done))) | apply Wk.nilv | apply Wk.last | apply Wk.drop), A16, k16, by rw [e0, e1, hol], by rw [e1]⟩
  · have e0 := lfE_tw (ls := ls) ht
    have e1 : lfM c s r ls = [] := if_neg (by rw [e0]; exact ht)
    rw [e0, e1]
    repeat' (first
|(apply G_call;eq_refl;eq_refl;(apply hlk;(repeat first|exact In.here|apply In.there|apply In.skip));rintro _ _ (⟨_, rfl, rfl⟩|⟨he, p1, B1, k1, A1, k5, rfl, rfl⟩);rotate_left;(exact absurd he ht))
|(apply GC_seqK;intro K hK)
|(apply hK;clear hK K)
|(apply GC_region)
|(apply GL_nil)
|(apply thenG_normal)
|(apply thenG_ret)
|(apply GC_ret)
|(apply GC_if_true;eq_refl)
|(apply retG2;eq_refl;eq_refl)
|(apply GL_on;eq_refl;eq_refl)
|(apply G_pv;eq_refl;first|exact trivial|omega)
|(apply G_ldW;eq_refl;(repeat first|exact In.here|apply In.there|apply In.skip);eq_refl)
|(apply G_cmpT;eq_refl;eq_refl;omega)
|(apply G_box;eq_refl;eq_refl;intro _))
    exact ⟨[.vec icell 1 3 none 0 []], (by repeat first | exact Wk.nil | exact Wk.refl | (apply Wk.cons; (focus ((repeat first | exact Rem.here | apply Rem.there | apply Rem.skip); done))) | apply Wk.nilv | apply Wk.last | apply Wk.drop), none, 0, rfl, rfl⟩
end
end SC
end Go.Proofs.YtclihihdgodloaaDoor
end
section
/- trestleref08.Lift; Lit of both. -/
set_option linter.unusedVariables false
set_option linter.unusedSimpArgs false
namespace Go.Proofs.YtclihihdgodloaaDoor
namespace SC
open Go.Proofs
attribute [local irreducible] WC WL WX WS WO OX Does DoesU Enters CV Pure thenQ blockQ retQ Wants retQC GC GL GS GX RdB thenG blockG retG Rd At gt CVN CVM
set_option maxRecDepth 100000
section
variable {w : World} {c : Circ} {h js : Hd} {S T L : Option Addr} {k2 k3 k4 : Nat} {s r ls : List Int} (H : CirIn w c h js) (hS : RowA w icell 1 S s) (hT : RowA w icell 1 T r) (hL : RowA w icell 1 L ls) (hz : S = none → k2 = 0) (hs : s.length ≤ 17592186044000) (hr : r.length ≤ 9223372036854775807) (hl : ls.length ≤ 9223372036854775807)
include H hS hT hL hz hs hr hl
end
/-! ### Lit -/
end SC
end Go.Proofs.YtclihihdgodloaaDoor
end
section
/- trestlelaw08: works, names. -/
set_option linter.unusedVariables false
set_option linter.unusedSimpArgs false
namespace Go.Proofs.YtclihihdgodloaaDoor
namespace SC
open Go.Proofs
def cT : Circ := ⟨3, [], [(2, 3, 0), (4, 4, 0)], [], [], [], [], [], [(6, 3, 5)], [], []⟩
theorem cT_sizes : sizesM cT = 0 := by
  unfold sizesM
  rw [if_neg (by simp [cT]), if_neg]
  simp [cT, Circ.lens, sumW, sumL]; decide
theorem cT_defs : definesM cT (T0 cT) = ((0, 0), [(0, 0), (2, 0), (2, 1), (3, 0)]) := by decide
theorem cT_tab : tabM cT = [(0, 0), (2, 0), (2, 1), (3, 0)] := by unfold tabM; rw [cT_defs]
theorem cT_uses : usesM cT (tabM cT) = (0, 0) := by rw [cT_tab]; decide
theorem cT_below : gateB (tabM cT) cT 0 = [] := by rw [cT_tab]; decide
theorem cT_all : All 1 (gateB (tabM cT) cT) [0] := by
  have h0 : ∀ x, rg 1 x → x = 0 := fun x hx => by unfold rg at hx; omega
  refine ⟨?_, fun x hx => hx.new (by rw [h0 x hx.rg]; simp)⟩
  have : Told 1 (gateB (tabM cT) cT) ([] ++ [0]) := .snoc .nil ⟨by unfold rg; omega, by simp, by rw [cT_below]; simp⟩ fun y hy => by rw [h0 y hy.rg]; exact Int.le_refl _
  exact this
theorem cT_look : (lookM cT).2 = 0 := by
  have hc : cycM cT.ands.length (gateB (tabM cT) cT) = -1 := cycM_eq ⟨[0], cT_all, .inl ⟨rfl, rfl⟩⟩
  unfold lookM
  rw [cT_sizes, cT_defs, cT_uses, hc]
  simp [cT, goSym, goCom]
theorem cT_ord : ordM cT = [0] := ordM_eq cT_all
theorem cT_sane : cT.Sane := ⟨by simp [cT], by simp [cT], by simp [cT], by simp [cT], by simp [cT], by simp [cT]⟩
theorem cT_okay : cT.Okay := ⟨by simp [cT, Circ.lens], by simp [cT], (by intro x hx; simp [cT] at hx; rcases hx with rfl | rfl <;> simp [TriFits, fit64, fits]), (by intro x hx; simp [cT] at hx; subst hx; simp [TriFits, fit64, fits]), by simp [cT]⟩
theorem cT_fits : cT.Fits := ⟨by simp [cT], by simp [cT], by simp [cT], by simp [cT], by simp [cT], by simp [cT], by simp [cT], by simp [cT], by simp [cT], by simp [cT], by simp [cT]⟩
def hTn (a b : Nat) : Hd := fun | 2 => (some ⟨a, 0, none⟩, 2) | 8 => (some ⟨b, 0, none⟩, 1) | _ => (none, 0)
theorem cT_in {w : World} {a b : Nat} (ha : Blk w a 59 [nu 2, nu 3, nu 0, nu 4, nu 4, nu 0]) (hb : Blk w b 61 [nu 6, nu 3, nu 5]) : CirIn w cT (hTn a b) hNil :=
  ⟨⟨RowA.emp, RowA.blk (l := [(2, 3, 0), (4, 4, 0)]) tlen ha, RowA.emp, RowA.emp, RowA.emp, fun k hk => absurd hk (Nat.not_lt_zero _), fun k hk => absurd hk (Nat.not_lt_zero _), RowA.emp, RowA.blk (l := [(6, 3, 5)]) tlen hb, RowA.emp, RowA.emp⟩, cT_sane, cT_okay, cT_fits⟩
theorem cT_val (s r : List Int) : valT cT s r = tAn cT [0] (tLt cT s (tIn cT r 0) 2) 1 := by
  unfold valT
  rw [cT_ord]
  rfl
theorem cT_set (a : List Int) : setT cT a = joinT a (nxtT cT (tAn cT [0] (tLt cT a (tIn cT [] 0) 2) 1)) := by
  unfold setT
  rw [cT_val]
  rfl
theorem cT_st0 : stT cT 0 = [0, 0] := by decide
theorem cT_st1 : stT cT 1 = [2, 0] := by
  show setT cT (stT cT 0) = _
  rw [cT_st0, cT_set]
  decide
theorem cT_fix : setT cT [2, 0] = [2, 0] := by rw [cT_set]; decide
theorem cT_nS : nS cT = 1 := by
  rcases Nat.lt_trichotomy (nS cT) 1 with h | h | h
  · have h0 : nS cT = 0 := by omega
    have := nS_fix cT
    rw [h0] at this
    have h1 : setT cT (stT cT 0) = stT cT 1 := rfl
    rw [h1, cT_st0, cT_st1] at this
    exact absurd this (by decide)
  · exact h
  · have := nS_not cT h
    rw [cT_st1] at this
    exact absurd cT_fix this
theorem cT_sM : sM cT = [2, 0] := by
  have : sM cT = stT cT (nS cT) := if_pos cT_look
  rw [this, cT_nS, cT_st1]
theorem cT_sN : sN cT = 1 := by
  have : sN cT = (nS cT : Int) := if_pos cT_look
  rw [this, cT_nS]
  rfl
theorem cT_tw : twE cT [1, 1] [] = 0 := twE_ok cT_look (by decide) (by decide)
theorem cT_lfE : lfE cT [1, 1] [] [7] = 0 := lfE_ok cT_tw (by decide) (by decide) (by rw [cT_val]; decide)
theorem cT_lfM : lfM cT [1, 1] [] [7] = [2, 1] := by
  have h0 : lfM cT [1, 1] [] [7] = lfT cT [1, 1] [] [7] 2 := if_pos cT_lfE
  have h1 : lfT cT [1, 1] [] [7] 1 = [2, 1] := by
    show (if onesT (valT cT ([1, 1].set 0 2) []) [7] = true then [1, 1].set 0 2 else [1, 1]) = _
    rw [cT_val]
    decide
  have h2 : lfT cT [1, 1] [] [7] 2 = [2, 1] := by
    show (if onesT (valT cT ((lfT cT [1, 1] [] [7] 1).set 1 2) []) [7] = true then (lfT cT [1, 1] [] [7] 1).set 1 2 else lfT cT [1, 1] [] [7] 1) = _
    rw [h1, cT_val]
    decide
  rw [h0, h2]
attribute [local irreducible] WC WL WX WS WO OX Does DoesU Enters CV Pure thenQ blockQ retQ Wants retQC GC GL GS GX RdB thenG blockG retG Rd At CVN CVM
set_option maxRecDepth 100000
set_option maxHeartbeats 1600000 in
theorem works8_cv {w : World} (G : TabG w) : CVN Tryd.prog 18 [] w fun v N => N = [] ∧ v = .bool true := by
  have hS : ∀ Γ a b, In Γ (.old w none_) → In Γ (.box a 59 [nu 2, nu 3, nu 0, nu 4, nu 4, nu 0]) → In Γ (.box b 61 [nu 6, nu 3, nu 5]) → ∀ w', Mem w' Γ → CVN Tryd.prog 19 [.agg (ccells cT (hTn a b)).toArray] w' fun v N => ∃ A k, v = .tuple #[.slice A 2 k, nu 1, nu 0] ∧ N = [.vec icell 1 3 A k [2, 0]] := fun Γ a b ho h1 h2 w' M => by
    have := SettleP_cv (G.chg (ho.old M)) (cT_in (h1.box M) (h2.box M))
    unfold SetV at this
    rwa [cT_sM, cT_sN, cT_look] at this
  have hL : ∀ Γ a b x y, In Γ (.old w none_) → In Γ (.box a 59 [nu 2, nu 3, nu 0, nu 4, nu 4, nu 0]) → In Γ (.box b 61 [nu 6, nu 3, nu 5]) → In Γ (.box x 3 [nu 1, nu 1]) → In Γ (.box y 3 [nu 7]) → ∀ w', Mem w' Γ → CVN Tryd.prog 12 [.agg (ccells cT (hTn a b)).toArray, .slice (some ⟨x, 0, none⟩) 2 2, .slice none 0 0, .slice (some ⟨y, 0, none⟩) 1 1] w' fun v N => ∃ A k, v = .tuple #[.slice A 2 k, nu 0] ∧ N = [.vec icell 1 3 A k [2, 1]] := fun Γ a b x y ho h1 h2 h3 h4 w' M => by
    have := LiftP_cv (s := [1, 1]) (r := []) (ls := [7]) (S := some ⟨x, 0, none⟩) (T := none) (L := some ⟨y, 0, none⟩) (k2 := 2) (k3 := 0) (k4 := 1) (cT_in (h1.box M) (h2.box M)) (RowA.blk (l := [1, 1]) ilen (h3.box M)) RowA.emp (RowA.blk (l := [7]) ilen (h4.box M)) (by decide) (by decide) (by decide) (G.chg (ho.old M))
    unfold IntsE at this
    rwa [cT_lfM, cT_lfE] at this
  refine CVN.enter 70 [0] Tryd.func18 rfl rfl rfl (by decide) rfl ?_
  repeat' (first
|(apply G_cmpT;eq_refl;eq_refl;(exact rfl))
|(apply G_ix;eq_refl;eq_refl;(first|(apply Rd.own;(repeat first|exact In.here|apply In.there|apply In.skip);infer_instance)|(apply Rd.old;(repeat first|exact In.here|apply In.there|apply In.skip);assumption)|(apply Rd.oldR;(repeat first|exact In.here|apply In.there|apply In.skip);assumption)|exact Rd.nil|assumption);eq_refl;(focus simp);(first|(exact (show (0 : Int) < ((2 : Nat) : Int) by decide))|(exact (show (1 : Int) < ((2 : Nat) : Int) by decide))))
|(apply G_rd;eq_refl;(first|(apply Rd.own;(repeat first|exact In.here|apply In.there|apply In.skip);infer_instance)|(apply Rd.old;(repeat first|exact In.here|apply In.there|apply In.skip);assumption)|(apply Rd.oldR;(repeat first|exact In.here|apply In.there|apply In.skip);assumption)|exact Rd.nil|assumption);(case ih => infer_instance);(focus simp);(first|(exact (show (0 : Int) < ((2 : Nat) : Int) by decide))|(exact (show (1 : Int) < ((2 : Nat) : Int) by decide)));eq_refl)
|(apply G_call;eq_refl;eq_refl;(apply hS;(repeat first|exact In.here|apply In.there|apply In.skip);(repeat first|exact In.here|apply In.there|apply In.skip);(repeat first|exact In.here|apply In.there|apply In.skip));rintro _ _ ⟨A1, k1, rfl, rfl⟩)
|(apply G_call;eq_refl;eq_refl;(apply hL;(repeat first|exact In.here|apply In.there|apply In.skip);(repeat first|exact In.here|apply In.there|apply In.skip);(repeat first|exact In.here|apply In.there|apply In.skip);(repeat first|exact In.here|apply In.there|apply In.skip);(repeat first|exact In.here|apply In.there|apply In.skip));rintro _ _ ⟨A2, k2, rfl, rfl⟩)
|(apply GC_seqK;intro K hK)
|(apply hK;clear hK K)
|(apply GC_region)
|(apply GL_nil)
|(apply thenG_normal)
|(apply GC_ret)
|(apply retG1;eq_refl)
|(apply GL_on;eq_refl;eq_refl)
|(apply G_pv;eq_refl;first|exact trivial|omega)
|(apply G_ldW;eq_refl;(repeat first|exact In.here|apply In.there|apply In.skip);eq_refl)
|(apply G_len;eq_refl)
|(apply G_alloc;eq_refl;intro _)
|(apply G_stW;(first|exact wr_p|kernel_rfl);eq_refl;eq_refl;eq_refl;eq_refl;(repeat first|exact Upd.here|apply Upd.there|apply Upd.skip);eq_refl)
|(apply GX_pure;apply build59_0_1 <;> eq_refl)
|(apply GX_pure;apply build61_0_1_2 <;> eq_refl)
|(apply GX_pure;apply build29_0_2_8 <;> eq_refl)
|(apply G_new (fun b => .slice (some ⟨b, 0, none⟩) 2 2);eq_refl;(intro _;apply buildS23_2 <;> eq_refl);intro _)
|(apply G_new (fun b => .slice (some ⟨b, 0, none⟩) 1 1);eq_refl;(intro _;apply buildS25_1 <;> eq_refl);intro _)
|(apply G_new (fun b => .slice (some ⟨b, 0, none⟩) 2 2);eq_refl;(intro _;apply buildS22_2 <;> eq_refl);intro _)
|(apply G_new (fun b => .slice (some ⟨b, 0, none⟩) 1 1);eq_refl;(intro _;apply buildS22_1 <;> eq_refl);intro _))
  exact ⟨[], (by repeat first | exact Wk.nil | exact Wk.refl | (apply Wk.cons; (focus ((repeat first | exact Rem.here | apply Rem.there | apply Rem.skip); done))) | apply Wk.nilv | apply Wk.last | apply Wk.drop), rfl, rfl⟩
end SC
end Go.Proofs.YtclihihdgodloaaDoor
end
section
/- trestlelaw08: TernSteps, TernSettles, TernRows, TernLifts: the walks. -/
set_option linter.unusedVariables false
set_option linter.unusedSimpArgs false
namespace Go.Proofs.YtclihihdgodloaaDoor
namespace SC
open Go.Proofs
attribute [local irreducible] WC WL WX WS WO OX Does DoesU Enters CV Pure thenQ blockQ retQ Wants retQC GC GL GS GX RdB thenG blockG retG Rd At gt CVN CVM
attribute [local irreducible] lentX bun
set_option maxRecDepth 100000
end SC
end Go.Proofs.YtclihihdgodloaaDoor
end
