/- Texts of this seat, one behind the other: L7 L8 L9 S2 S3 S4 S5 S6 S7 S8 S9 S10 S11 S12 S13 L10 S14 S15 S16 S17 S18 S19 S20 S21 S22 S23 S24 S27 S28 S29 S30 S31 S32 S33 S36 S34 S35 M1 M2 M3 S37 S38 S39 S40. -/
import Derived.Test.YtkndegjodnciaaaQ4
import Derived.ChangeArms
section
/- trestleref03: round. -/
set_option linter.unusedVariables false
set_option linter.unusedSimpArgs false
namespace Go.Proofs.Ytkndegjodnciaaa
namespace SC
open Go.Proofs
/-- The search from a gate, first come first served: i of the list are done. -/
structure Bfs (n : Nat) (B : Int → List Int) (at_ : Int) (l : List Int) (sn : List Bool) (i : Nat) : Prop where
  len : sn.length = n
  head : l[0]? = some at_
  all : ∀ z ∈ l, rg n z ∧ (z = at_ ∨ Hangs B at_ z)
  seen : ∀ z, rg n z → Sn sn z = true → z ∈ l
  done : ∀ j (hj : j < l.length), j < i → ∀ u ∈ B l[j], u ≠ at_ ∧ u ∈ l
  cnt : l.length + sn.count false = n + 1
  le : i ≤ l.length
theorem Bfs.init {n : Nat} {B : Int → List Int} {at_ : Int} (h : rg n at_) : Bfs n B at_ [at_] (List.replicate n false) 0 :=
  ⟨by simp, rfl, fun z hz => by simp at hz; subst hz; exact ⟨h, .inl rfl⟩, fun z _ hz => (by rw [Sn_false] at hz; cases hz), fun j _ hj => absurd hj (Nat.not_lt_zero _), by simp; omega, Nat.zero_le _⟩
theorem Bfs.hangs {n : Nat} {B : Int → List Int} {at_ : Int} {l : List Int} {sn : List Bool} {i : Nat} (h : Bfs n B at_ l sn i) {x u : Int} (hx : x ∈ l) (hu : u ∈ B x) : Hangs B at_ u := by
  rcases (h.all x hx).2 with rfl | hh
  · exact .one hu
  · exact .more hh hu
theorem Bfs.add {n : Nat} {B : Int → List Int} {at_ : Int} {l : List Int} {sn : List Bool} {i : Nat} (h : Bfs n B at_ l sn i) {u : Int} (hr : rg n u) (hh : Hangs B at_ u) (hs : Sn sn u = false) : Bfs n B at_ (l ++ [u]) (sn.set u.toNat true) i := by
  have hul : u.toNat < sn.length := by have := h.len; unfold rg at hr; omega
  have hc : (sn.set u.toNat true).count false + 1 = sn.count false := count_set _ _ (by
    rw [List.getElem?_eq_getElem hul]
    unfold Sn at hs
    simpa [hul] using hs)
  have hpos : 0 < l.length := (List.getElem?_eq_some_iff.1 h.head).1
  have hle := h.le
  refine ⟨by rw [List.length_set]; exact h.len, by rw [List.getElem?_append_left hpos]; exact h.head, fun z hz => ?_, fun z hz hz2 => ?_, fun j hj hji v hv => ?_, ?_, by simp; omega⟩
  · rcases List.mem_append.1 hz with hz | hz
    · exact h.all z hz
    · simp at hz; subst hz; exact ⟨hr, .inr hh⟩
  · rw [Sn_set true (by rw [h.len]; exact hr) hz.1] at hz2
    split at hz2
    · rename_i e; subst e; simp
    · exact List.mem_append_left _ (h.seen z hz hz2)
  · rcases Nat.lt_or_ge j l.length with hjl | hjl
    · rw [List.getElem_append_left hjl] at hv
      obtain ⟨h1, h2⟩ := h.done j hjl hji v hv
      exact ⟨h1, List.mem_append_left _ h2⟩
    · omega
  · have := h.cnt
    rw [List.length_append, List.length_singleton]
    omega
theorem Bfs.next {n : Nat} {B : Int → List Int} {at_ : Int} {l : List Int} {sn : List Bool} {i : Nat} (h : Bfs n B at_ l sn i) (hi : i < l.length) (hu : ∀ u ∈ B l[i], u ≠ at_ ∧ u ∈ l) : Bfs n B at_ l sn (i + 1) :=
  ⟨h.len, h.head, h.all, h.seen, fun j hj hji u hh => by
    rcases Nat.lt_or_ge j i with h1 | h1
    · exact h.done j hj h1 u hh
    · have e : j = i := by omega
      subst e
      exact hu u hh, h.cnt, hi⟩
theorem Bfs.none {n : Nat} {B : Int → List Int} {at_ : Int} {l : List Int} {sn : List Bool} {i : Nat} (h : Bfs n B at_ l sn i) (hi : l.length ≤ i) : ¬ Hangs B at_ at_ := by
  have key : ∀ z, Hangs B at_ z → z ≠ at_ ∧ z ∈ l := fun z hz => by
    have cl : ∀ x ∈ l, ∀ u ∈ B x, u ≠ at_ ∧ u ∈ l := fun x hx u hu => by
      obtain ⟨j, hj, rfl⟩ := List.mem_iff_getElem.1 hx
      exact h.done j hj (by omega) u hu
    generalize hv : at_ = v at hz
    have hat : at_ ∈ l := List.mem_of_getElem? h.head
    induction hz with
    | one h1 => subst hv; exact cl _ hat _ h1
    | more _ h1 ih => subst hv; exact cl _ ih.2 _ h1
  exact fun hh => (key _ hh).1 rfl
theorem Bfs.size {n : Nat} {B : Int → List Int} {at_ : Int} {l : List Int} {sn : List Bool} {i : Nat} (h : Bfs n B at_ l sn i) : l.length ≤ n + 1 := by have := h.cnt; omega
/-- What round keeps in memory. -/
structure RndSt (w W : World) (c : Circ) (h : Hd) (g D : Nat) (l : List Int) (sn : List Bool) (v : Value) : Prop where
  chg : Chg w W none_
  box : Blk W w.heap.size 51 (ccells c h)
  gate : Blk W g 3 ((gatesM c).map nu)
  seen : Blk W D 4 (sn.map Value.bool)
  row : W.ownsRow (D + 1) 3 1 v l.length (l.map nu)
theorem RndSt.same {w W W' : World} {c : Circ} {h : Hd} {g D : Nat} {l : List Int} {sn : List Bool} {v : Value} (S : RndSt w W c h g D l sn v) (hc : Chg W W' none_) : RndSt w W' c h g D l sn v :=
  ⟨S.chg.trans hc fun _ _ h => h, S.box.chg hc id, S.gate.chg hc id, S.seen.chg hc id, own_chg S.row hc fun _ _ => id⟩
section
variable {P : Program} {n : Nat} {all : List Oper} {S : World → Prop} {K : Env → World → Prop} {i : Nat} {r : List (Nat × Bool)} {d : Option Tmp} {ty t : TypeId} {e : Env} {w : World} {td : TypeDesc} {sz by_ : Nat} {zv : Value} {ag : Bool}
theorem O_alloc [T : Ty P t td sz zv by_ ag] (hS : loose .any all.toArray i = false → S (w.alloc (.cells zv.cells t))) (hr : WS P n all S K r (push d (.pointer (some ⟨w.heap.size, 0, none⟩)) e) (w.alloc (.cells zv.cells t))) : OX P n all S K i false r d (.alloc t) ty e w := O_does does_alloc hS hr
end
attribute [local irreducible] WC WL WX WS WO OX Does DoesU Enters CV Pure thenQ blockQ retQ Wants retQC
set_option maxRecDepth 100000
theorem round_cv {w : World} {c : Circ} {h js : Hd} {t : Tab} {g : Nat} {at_ : Int} (H : CirAt w c h js) (hG : Blk w g 3 ((gatesM c).map nu)) (hT : TabOk c t) (hU : UseAll c t) (hm : 0 ≤ c.max ∧ c.max ≤ 16384) (hn : c.ands.length ≤ 16384) (hat : rg c.ands.length at_) :
    CV Try.prog 81 [.agg (ccells c h).toArray, .slice (some ⟨g, 0, none⟩) (gatesM c).length (gatesM c).length, nu at_] w fun v w' => ∃ b, v = .bool b ∧ (b = true ↔ Hangs (gateB t c) at_ at_) ∧ Chg w w' none_ := by
  have hI0 : Blk (w.alloc (.cells (ccells c h).toArray 51)) w.heap.size 51 (ccells c h) := Blk.new w _ _
  have hC0 := Chg.alloc w (.cells (ccells c h).toArray 51) none_
  have hgl := gatesM_len c
  have hg0 := hG.lt
  refine enter 79 [6] Try.func81 rfl rfl rfl (by decide) rfl ?_
  repeat' (first
      | (apply X_make; eq_refl; omega; omega)
      | (apply WC_seqK; intro K hK)
      | (apply hK; clear hK)
      | (apply WC_block)
      | (apply WC_region)
      | (apply WL_nil)
      | (apply thenQ_normal)
      | (apply WL_on0; eq_refl)
      | (apply X_pv; eq_refl; first | exact trivial | omega)
      | (apply X_field; eq_refl)
      | (apply X_loadR; eq_refl; (first | assumption | (apply Blk.alloc; assumption) | apply Blk.new | apply Blk.newA | (apply Blk.alloc; first | apply Blk.newA | (apply Blk.alloc; first | assumption | apply Blk.newA))); eq_refl)
      | (apply X_len; eq_refl)
      | (apply X_box; eq_refl)
      | (apply X_does; apply buildS45_1 <;> eq_refl))
  have hz0 := sz_alloc w (.cells (ccells c h).toArray 51)
  have hz1 := sz_alloc (w.alloc (.cells (ccells c h).toArray 51)) (.cells (madeCells (Value.bool false).cells (c.ands.length * 1)) 4)
  have hdm : Blk ((w.alloc (.cells (ccells c h).toArray 51)).alloc (.cells (madeCells (Value.bool false).cells (c.ands.length * 1)) 4)) (w.alloc (.cells (ccells c h).toArray 51)).heap.size 4 ((List.replicate c.ands.length false).map Value.bool) := by
    have e1 : (madeCells (Value.bool false).cells (c.ands.length * 1)).toList = (List.replicate c.ands.length false).map Value.bool := by rw [Nat.mul_one, show (Value.bool false).cells = #[Value.bool false] from rfl, made_one, List.map_replicate]
    have := Blk.newA (w.alloc (.cells (ccells c h).toArray 51)) (madeCells (Value.bool false).cells (c.ands.length * 1)) 4
    rwa [e1] at this
  have hS0 : RndSt w (((w.alloc (.cells (ccells c h).toArray 51)).alloc (.cells (madeCells (Value.bool false).cells (c.ands.length * 1)) 4)).alloc (.cells #[nu at_] 3)) c h g (w.alloc (.cells (ccells c h).toArray 51)).heap.size [at_] (List.replicate c.ands.length false) (.slice (some ⟨((w.alloc (.cells (ccells c h).toArray 51)).alloc (.cells (madeCells (Value.bool false).cells (c.ands.length * 1)) 4)).heap.size, 0, none⟩) 1 1) :=
    ⟨(hC0.al _).al _, (hI0.alloc _).alloc _, ((hG.alloc _).alloc _).alloc _, hdm.alloc _, ⟨by simp, .inr ⟨_, 1, #[nu at_], rfl, by rw [hz1]; exact Nat.le_refl _, heap_alloc_new _ _, Nat.le_refl _, by simp [maxLen], rfl, rfl⟩⟩⟩
  have hDw : w.heap.size < (w.alloc (.cells (ccells c h).toArray 51)).heap.size := by omega
  refine WC_loop (fun s : Nat × List Int × List Bool × Value => [(1, .slice (some ⟨g, 0, none⟩) (gatesM c).length (gatesM c).length), (2, nu at_), (3, pt w.heap.size), (7, .slice (some ⟨(w.alloc (.cells (ccells c h).toArray 51)).heap.size, 0, none⟩) c.ands.length c.ands.length), (8, s.2.2.2), (9, nu s.1)])
    (fun s W => RndSt w W c h g (w.alloc (.cells (ccells c h).toArray 51)).heap.size s.2.1 s.2.2.1 s.2.2.2 ∧ Bfs c.ands.length (gateB t c) at_ s.2.1 s.2.2.1 s.1) (fun s => c.ands.length + 2 - s.1)
    (0, [at_], List.replicate c.ands.length false, .slice (some ⟨((w.alloc (.cells (ccells c h).toArray 51)).alloc (.cells (madeCells (Value.bool false).cells (c.ands.length * 1)) 4)).heap.size, 0, none⟩) 1 1) ⟨rfl, rfl, rfl, rfl, rfl, rfl, trivial⟩ ⟨hS0, .init hat⟩ ?_
  clear hS0 hdm hI0 hC0 hz0 hz1
  generalize (w.alloc (.cells (ccells c h).toArray 51)).heap.size = D at *
  rintro ⟨i, l, sn, vl⟩ w1 ⟨hS1, hB1⟩
  simp only at hS1 hB1
  obtain ⟨A1, cp1, rfl⟩ := row_form' hS1.row
  have hsz := hB1.size
  rcases Nat.lt_or_ge i l.length with hlt | hge
  · obtain ⟨p, rfl, hpc⟩ := (rowI hS1.row).one hlt (v := nu l[i]) rfl
    have hz := hB1.all _ (List.getElem_mem hlt)
    have hnx := hB1.next hlt
    have hlz := List.getElem_mem hlt
    generalize hzz : l[i] = z at *
    obtain ⟨hzr, hzh⟩ := hz
    have hzr' : 0 ≤ z ∧ z < c.ands.length := hzr
    have hzn : z.toNat < c.ands.length := by omega
    obtain ⟨q, hq, hqc⟩ := H.ands z.toNat hzn
    have hx : andAt c z = c.ands[z.toNat] := by unfold andAt; simp [hzn]
    have hle := hT.lit hU hzr (.inl rfl)
    have hri := hT.lit hU hzr (.inr rfl)
    rw [hx] at hle hri
    rw [show ((z.toNat : Nat) : Int) = z by omega] at hqc
    generalize hxx : c.ands[z.toNat] = x at *
    have hmB : ∀ u, u ∈ gateB t c z ↔ (kindAt t (x.2.1 / 2) = 3 ∧ atOf t (x.2.1 / 2) = u) ∨ (kindAt t (x.2.2 / 2) = 3 ∧ atOf t (x.2.2 / 2) = u) := fun u => by
      rw [mem_gateB hzr, hx]
      constructor
      · rintro ⟨l, rfl | rfl, h1, h2⟩
        · exact .inl ⟨h1, h2⟩
        · exact .inr ⟨h1, h2⟩
      · rintro (⟨h1, h2⟩ | ⟨h1, h2⟩)
        · exact ⟨_, .inl rfl, h1, h2⟩
        · exact ⟨_, .inr rfl, h1, h2⟩
    obtain ⟨hl0, hl1, hl2⟩ := hle
    obtain ⟨hr0, hr1, hr2⟩ := hri
    have hcl := L_cell (ls := gatesM c) (y := x.2.1 / 2) (by unfold rg; rw [hgl]; omega)
    have hcr := L_cell (ls := gatesM c) (y := x.2.2 / 2) (by unfold rg; rw [hgl]; omega)
    have hab : ∀ u : Int, 0 ≤ u → (L (gatesM c) (x.2.1 / 2) = u ∨ L (gatesM c) (x.2.2 / 2) = u) → rg c.ands.length u ∧ u ∈ gateB t c z := fun u hu hh => by
      rcases hh with rfl | rfl
      · rcases hl2 with ⟨_, h2, h3, h4⟩ | ⟨_, h2⟩
        · rw [h2]; exact ⟨h3, h4⟩
        · omega
      · rcases hr2 with ⟨_, h2, h3, h4⟩ | ⟨_, h2⟩
        · rw [h2]; exact ⟨h3, h4⟩
        · omega
    have hBab : ∀ u ∈ gateB t c z, 0 ≤ u ∧ (L (gatesM c) (x.2.1 / 2) = u ∨ L (gatesM c) (x.2.2 / 2) = u) := fun u hu => by
      rcases (hmB u).1 hu with ⟨h1, h2⟩ | ⟨h1, h2⟩
      · rcases hl2 with ⟨_, g2, g3, _⟩ | ⟨g1, _⟩
        · unfold rg at g3; exact ⟨by omega, .inl (g2.trans h2)⟩
        · exact absurd h1 g1
      · rcases hr2 with ⟨_, g2, g3, _⟩ | ⟨g1, _⟩
        · unfold rg at g3; exact ⟨by omega, .inr (g2.trans h2)⟩
        · exact absurd h1 g1
    clear hl2 hr2 hmB
    generalize L (gatesM c) (x.2.1 / 2) = a at *
    generalize L (gatesM c) (x.2.2 / 2) = bb at *
    have e6 : (ccells c h)[0 + 8]? = some (.slice (some q) c.ands.length (h 8).2) := by rw [← hq]; rfl
    repeat' (first
      | (apply WC_seqK; intro K hK)
      | (apply hK; clear hK)
      | (apply WC_block)
      | (apply WC_region)
      | (apply WL_nil)
      | (apply thenQ_normal)
      | (apply WC_skip)
      | (apply WC_if_true; eq_refl)
      | (apply WL_on0; eq_refl)
      | (apply X_pv; eq_refl; first | exact trivial | omega)
      | (apply X_cmpT; eq_refl; eq_refl; omega)
      | (apply X_len; eq_refl))
    refine WC_draws [(0, true), (1, true), (2, true), (3, true), (4, true), (5, true), (6, true), (7, true), (8, false), (9, false)] (fun W => Chg w1.drew W none_) mixed (by kernel_rfl) (by kernel_rfl) ?_
    have hS2 := hS1.same (Chg.refl w1 none_).dr
    have hpc2 : w1.drew.cell? _ = _ := hpc
    generalize w1.drew = w2 at *
    have hR := Chg.refl w2 none_
    repeat' (first
      | (apply O_loadR; eq_refl; (exact fun _ h => hS2.box.chg h id); exact e6; assumption)
      | (apply O_loadC; eq_refl; (exact fun W h => cel_chg hpc2 h id); assumption)
      | (apply O_loadAP (tcells x); eq_refl; eq_refl; (exact fun W h j u hj => cel_chg (hqc j u hj) (hS2.chg.trans h fun _ _ h => h) id); assumption)
      | (apply O_alloc; exact fun _ => hR.al _)
      | (apply WS_next; eq_refl)
      | (apply WO_on0; eq_refl)
      | (apply O_pv; eq_refl; (first | exact trivial | omega); (first | assumption | exact trivial))
      | (apply O_field; eq_refl; (first | assumption | exact trivial))
      | (apply O_indexP; eq_refl; eq_refl; omega; omega; (first | assumption | exact trivial)))
    have hcc : Chg w2 ((w2.alloc (.cells #[nu 0, nu 0, nu 0] 43)).setRow w2.heap.size (tcells x).toArray) none_ := (Chg.alloc w2 _ none_).trans (Chg.setRow _ w2.heap.size _ (S := fun k => k = w2.heap.size) rfl) fun k hk h => by omega
    refine O_doesU (does_storeA (t1 := 43) (vs := tcells x) (o := 0) (b := w2.heap.size) (by eq_refl) (by eq_refl) (Blk.newA w2 _ _) rfl (by exact Nat.le_refl 3) (by simp [tcells, Value.oneCell'])) (fun _ => hcc) ?_
    refine WS_turn (fun W => RndSt w W c h g D l sn (.slice (some p) l.length cp1) ∧ Blk W w2.heap.size 43 (tcells x)) ⟨hS2.same hcc, (Blk.newA w2 _ 43).set (tcells x)⟩ ?_
    clear hcc hR hS2 hpc2 hpc hS1
    generalize w2.heap.size = b10 at *
    rintro w3 ⟨hS3, hT3⟩
    repeat' (first
      | (apply WC_seqK; intro K hK)
      | (apply hK; clear hK)
      | (apply thenQ_normal)
      | (apply WS_nil))
    skip
    refine WC_draws [(0, true), (1, true), (2, true), (3, true), (4, true), (5, true), (6, true), (7, true), (8, true), (9, true), (10, true), (11, true), (12, true), (13, false), (14, false)] (fun W => Chg w3.drew W none_) mixed (by kernel_rfl) (by kernel_rfl) ?_
    have hS4 := hS3.same (Chg.refl w3 none_).dr
    have hT4 : Blk w3.drew b10 43 (tcells x) := hT3
    generalize w3.drew = w4 at *
    have hR := Chg.refl w4 none_
    repeat' (first
      | (apply O_loadR; eq_refl; (exact fun _ h => hT4.chg h id); eq_refl; assumption)
      | (apply O_loadR; eq_refl; (exact fun W h => hS4.gate.chg h id); exact hcl; assumption)
      | (apply O_loadR; eq_refl; (exact fun W h => hS4.gate.chg h id); exact hcr; assumption)
      | (apply O_alloc; exact fun _ => hR.al _)
      | (apply WS_next; eq_refl)
      | (apply WO_on0; eq_refl)
      | (apply O_pv; eq_refl; (first | exact trivial | omega); (first | assumption | exact trivial))
      | (apply O_field; eq_refl; (first | assumption | exact trivial))
      | (apply O_index; eq_refl; eq_refl; omega; omega; (first | assumption | exact trivial))
      | (apply O_pure; apply build63_0_1 <;> eq_refl; (first | assumption | exact trivial)))
    have hcc : Chg w4 ((w4.alloc (.cells #[nu 0, nu 0] 63)).setRow w4.heap.size [nu a, nu bb].toArray) none_ := (Chg.alloc w4 _ none_).trans (Chg.setRow _ w4.heap.size _ (S := fun k => k = w4.heap.size) rfl) fun k hk h => by omega
    refine O_doesU (does_storeA (t1 := 63) (vs := [nu a, nu bb]) (o := 0) (b := w4.heap.size) (by eq_refl) (by eq_refl) (Blk.newA w4 _ _) rfl (by exact Nat.le_refl 2) (by simp [Value.oneCell'])) (fun _ => hcc) ?_
    have hDb := hS4.seen.lt
    refine WS_turn (fun W => RndSt w W c h g D l sn (.slice (some p) l.length cp1) ∧ Blk W w4.heap.size 63 [nu a, nu bb]) ⟨hS4.same hcc, (Blk.newA w4 _ 63).set [nu a, nu bb]⟩ ?_
    clear hcc hR hS4 hS3 hT3 hT4
    generalize w4.heap.size = b11 at *
    rintro w5 ⟨hS5, hP5⟩
    repeat' (first
      | (apply WC_seqK; intro K hK)
      | (apply hK; clear hK)
      | (apply WC_block)
      | (apply WC_region)
      | (apply WL_nil)
      | (apply thenQ_normal)
      | (apply WS_nil)
      | (apply WL_on0; eq_refl)
      | (apply X_pv; eq_refl; first | exact trivial | omega))
    skip
    refine WC_loop (fun s : Nat × List Int × List Bool × Value => [(1, .slice (some ⟨g, 0, none⟩) (gatesM c).length (gatesM c).length), (2, nu at_), (3, pt w.heap.size), (7, .slice (some ⟨D, 0, none⟩) c.ands.length c.ands.length), (8, s.2.2.2), (9, nu i), (11, pt b11), (12, nu s.1)])
      (fun s W => RndSt w W c h g D s.2.1 s.2.2.1 s.2.2.2 ∧ Blk W b11 63 [nu a, nu bb] ∧ Bfs c.ands.length (gateB t c) at_ s.2.1 s.2.2.1 i ∧ s.2.1[i]? = some z ∧ s.1 ≤ 2 ∧ (∀ k < s.1, ∀ v, [a, bb][k]? = some v → 0 ≤ v → v ≠ at_ ∧ v ∈ s.2.1)) (fun s => 2 - s.1)
      (0, l, sn, .slice (some p) l.length cp1) ⟨rfl, rfl, rfl, rfl, rfl, rfl, rfl, rfl, trivial⟩ ⟨hS5, hP5, hB1, by rw [List.getElem?_eq_getElem hlt, hzz], Nat.zero_le _, fun k hk => absurd hk (Nat.not_lt_zero _)⟩ ?_
    clear hS5 hP5 hB1 hsz hnx hlz hzz hlt hzh
    rintro ⟨k, l, sn, vl⟩ w5 ⟨hS5, hP5, hB5, hli, hk, hno⟩
    simp only at hS5 hB5 hli hno hk
    have hsz := hB5.size
    have hlz : z ∈ l := List.mem_of_getElem? hli
    rcases Nat.lt_or_ge k 2 with hlt | hge
    · obtain ⟨v, hv1, hv2, hv3⟩ : ∃ v, [a, bb][k]? = some v ∧ [nu a, nu bb][0 + (k : Int).toNat * 1]? = some (nu v) ∧ (a = v ∨ bb = v) := by
        match k, hlt with
        | 0, _ => exact ⟨a, rfl, rfl, .inl rfl⟩
        | 1, _ => exact ⟨bb, rfl, rfl, .inr rfl⟩
      have hseen := hS5.seen
      have hno' : ∀ {l' : List Int}, (∀ y ∈ l, y ∈ l') → (0 ≤ v → v ≠ at_ ∧ v ∈ l') → ∀ k' < k + 1, ∀ u, [a, bb][k']? = some u → 0 ≤ u → u ≠ at_ ∧ u ∈ l' := fun {l'} hsub hv k' hk' u hu h0 => by
        rcases Nat.lt_or_ge k' k with h1 | h1
        · obtain ⟨g1, g2⟩ := hno k' h1 u hu h0
          exact ⟨g1, hsub _ g2⟩
        · have e : k' = k := by omega
          subst e
          rw [hv1] at hu
          cases hu
          exact hv h0
      by_cases hva : v = at_
      · have h0 : 0 ≤ v := by rw [hva]; exact hat.1
        have hh := hB5.hangs hlz (hab v h0 hv3).2
        rw [hva] at hv2 hh
        repeat' (first
      | (apply X_indexA; eq_refl; eq_refl; omega; omega)
      | (apply X_loadR; eq_refl; exact hP5; exact hv2)
      | (apply WC_seqK; intro K hK)
      | (apply hK; clear hK)
      | (apply WC_block)
      | (apply WC_region)
      | (apply WL_nil)
      | (apply thenQ_normal)
      | (apply thenQ_ret)
      | (apply blockQ_ret)
      | (apply WC_ret)
      | (apply WC_skip)
      | (apply WC_if_true; eq_refl)
      | (apply ret1; eq_refl)
      | (apply WL_on0; eq_refl)
      | (apply X_pv; eq_refl; first | exact trivial | omega)
      | (apply X_cmpT; eq_refl; eq_refl; omega))
        exact ⟨true, rfl, ⟨fun _ => hh, fun _ => rfl⟩, hS5.chg⟩
      · by_cases h0 : 0 ≤ v
        · obtain ⟨hvr, hvB⟩ := hab v h0 hv3
          have hvr' : 0 ≤ v ∧ v < c.ands.length := hvr
          have hcell := Sn_cell (sn := sn) (z := v) (by rw [hB5.len]; exact hvr)
          cases hsv : Sn sn v with
          | true =>
            rw [hsv] at hcell
            repeat' (first
      | (apply X_indexA; eq_refl; eq_refl; omega; omega)
      | (apply X_loadR; eq_refl; exact hP5; exact hv2)
      | (apply X_loadR; eq_refl; exact hseen; exact hcell)
      | (apply WC_seqK; intro K hK)
      | (apply hK; clear hK)
      | (apply WC_block)
      | (apply WC_region)
      | (apply WL_nil)
      | (apply thenQ_normal)
      | (apply blockQ_normal)
      | (apply WC_skip)
      | (apply WC_if_true; eq_refl)
      | (apply WC_if_false; eq_refl)
      | (apply WL_on0; eq_refl)
      | (apply WL_onG; eq_refl; eq_refl; eq_refl; eq_refl)
      | (apply X_pv; eq_refl; first | exact trivial | omega)
      | (apply X_cmpT; eq_refl; eq_refl; omega)
      | (apply X_cmpF; eq_refl; eq_refl; omega)
      | (apply X_index; eq_refl; eq_refl; omega; omega))
            exact ⟨(k + 1, l, sn, vl), ⟨rfl, rfl, rfl, rfl, rfl, rfl, rfl, rfl, trivial⟩, ⟨hS5, hP5, hB5, hli, hlt, hno' (fun _ h => h) fun _ => ⟨hva, hB5.seen v hvr hsv⟩⟩, by simp only; omega⟩
          | false =>
            rw [hsv] at hcell
            have hB6 := hB5.add hvr (hB5.hangs hlz hvB) hsv
            have hsl := hB5.len
            repeat' (first
      | (apply X_indexA; eq_refl; eq_refl; omega; omega)
      | (apply X_loadR; eq_refl; exact hP5; exact hv2)
      | (apply X_loadR; eq_refl; exact hseen; exact hcell)
      | (apply WC_seqK; intro K hK)
      | (apply hK; clear hK)
      | (apply WC_block)
      | (apply WC_region)
      | (apply WL_nil)
      | (apply thenQ_normal)
      | (apply WC_skip)
      | (apply WC_if_true; eq_refl)
      | (apply WC_if_false; eq_refl)
      | (apply WL_on0; eq_refl)
      | (apply WL_onG; eq_refl; eq_refl; eq_refl; eq_refl)
      | (apply X_pv; eq_refl; first | exact trivial | omega)
      | (apply X_cmpT; eq_refl; eq_refl; omega)
      | (apply X_cmpF; eq_refl; eq_refl; omega)
      | (apply X_index; eq_refl; eq_refl; omega; omega))
            refine X_doesU (does_store1 (t1 := 4) (b := D) (o := 0 + v.toNat * 1) (v := .bool true) (by eq_refl) (by eq_refl) hseen (by simp; omega) rfl rfl) ?_
            have hcc : Chg w5 (w5.setRow D ((sn.map Value.bool).set (0 + v.toNat * 1) (.bool true)).toArray) (fun k => k = D) := Chg.setRow _ _ _ rfl
            have hD2 := hseen.set ((sn.map Value.bool).set (0 + v.toNat * 1) (.bool true))
            rw [show (sn.map Value.bool).set (0 + v.toNat * 1) (.bool true) = (sn.set v.toNat true).map Value.bool by rw [Nat.zero_add, Nat.mul_one, List.map_set]] at hcc hD2 ⊢
            have hS6 : RndSt w (w5.setRow D ((sn.set v.toNat true).map Value.bool).toArray) c h g D l (sn.set v.toNat true) vl :=
              ⟨hS5.chg.trans hcc fun k hk hh => by omega, hS5.box.chg hcc (by omega), hS5.gate.chg hcc (by omega), hD2, own_chg hS5.row hcc fun k hk hh => by have := (hS5.row.lt k hk).1; omega⟩
            have hP6 := hP5.chg hcc (by omega)
            clear hcc hD2
            generalize w5.setRow D ((sn.set v.toNat true).map Value.bool).toArray = w6 at *
            repeat' (first
      | (apply X_indexA; eq_refl; eq_refl; omega; omega)
      | (apply X_loadR; eq_refl; exact hP6; exact hv2)
      | (apply hK; clear hK)
      | (apply WC_region)
      | (apply WL_nil)
      | (apply thenQ_normal)
      | (apply WL_on0; eq_refl)
      | (apply X_pv; eq_refl; first | exact trivial | omega)
      | (apply X_does; apply buildS45_1 <;> eq_refl))
            have hrow6 := hS6.row
            refine X_append (D + 1) (by eq_refl) (by eq_refl) (hrow6.alloc _) (Blk.newA w6 _ _) rfl rfl (by decide) (by simp [Value.oneCell']) (by omega) (by decide) (by have := hS6.seen.lt; simp; omega) ?_
            intro vl' w7 hrow7 hC7 _ _
            have hown : ∀ k, vl.ownBlock = some k → D + 1 ≤ k := fun k hk => (hrow6.lt k hk).1
            have hS7 : RndSt w w7 c h g D (l ++ [v]) (sn.set v.toNat true) vl' :=
              ⟨(hS6.chg.al _).trans hC7 fun k hk hh => by have := hown k hh; omega, (hS6.box.alloc _).chg hC7 fun hh => by have := hown _ hh; omega, (hS6.gate.alloc _).chg hC7 fun hh => by have := hown _ hh; omega, (hS6.seen.alloc _).chg hC7 fun hh => by have := hown _ hh; omega, by simpa using hrow7⟩
            have hP7 : Blk w7 b11 63 [nu a, nu bb] := (hP6.alloc (.cells #[nu v] 3)).chg hC7 (own_blk (hrow6.alloc (.cells #[nu v] 3)) (hP6.alloc (.cells #[nu v] 3)) (by decide))
            repeat' (first
      | (apply hK; clear hK)
      | (apply WC_region)
      | (apply WL_nil)
      | (apply thenQ_normal)
      | (apply blockQ_normal)
      | (apply WL_on0; eq_refl)
      | (apply X_pv; eq_refl; first | exact trivial | omega))
            have hil : i < l.length := (List.getElem?_eq_some_iff.1 hli).1
            exact ⟨(k + 1, l ++ [v], sn.set v.toNat true, vl'), ⟨rfl, rfl, rfl, rfl, rfl, rfl, rfl, rfl, trivial⟩, ⟨hS7, hP7, hB6, by rw [List.getElem?_append_left hil]; exact hli, hlt, hno' (fun _ h => List.mem_append_left _ h) fun _ => ⟨hva, by simp⟩⟩, by simp only; omega⟩
        · repeat' (first
      | (apply X_indexA; eq_refl; eq_refl; omega; omega)
      | (apply X_loadR; eq_refl; exact hP5; exact hv2)
      | (apply WC_seqK; intro K hK)
      | (apply hK; clear hK)
      | (apply WC_block)
      | (apply WC_region)
      | (apply WL_nil)
      | (apply thenQ_normal)
      | (apply blockQ_normal)
      | (apply WC_skip)
      | (apply WC_if_true; eq_refl)
      | (apply WC_if_false; eq_refl)
      | (apply WL_on0; eq_refl)
      | (apply WL_noG; eq_refl; eq_refl; eq_refl; eq_refl)
      | (apply X_pv; eq_refl; first | exact trivial | omega)
      | (apply X_cmpT; eq_refl; eq_refl; omega)
      | (apply X_cmpF; eq_refl; eq_refl; omega))
          exact ⟨(k + 1, l, sn, vl), ⟨rfl, rfl, rfl, rfl, rfl, rfl, rfl, rfl, trivial⟩, ⟨hS5, hP5, hB5, hli, hlt, hno' (fun _ h => h) fun h => absurd h h0⟩, by simp only; omega⟩
    · obtain rfl : k = 2 := by omega
      have hil : i < l.length := (List.getElem?_eq_some_iff.1 hli).1
      have hzi : l[i] = z := by rw [List.getElem?_eq_getElem hil] at hli; exact Option.some.inj hli
      have hB6 := hB5.next hil (by
        rw [hzi]
        intro u hu
        obtain ⟨h1, h2⟩ := hBab u hu
        rcases h2 with h2 | h2
        · exact hno 0 (by decide) u (by rw [← h2]; rfl) h1
        · exact hno 1 (by decide) u (by rw [← h2]; rfl) h1)
      repeat' (first
      | (apply WC_seqK; intro K hK)
      | (apply hK; clear hK)
      | (clear hK; apply hK; clear hK)
      | (apply WC_region)
      | (apply WL_nil)
      | (apply thenQ_normal)
      | (apply thenQ_exit)
      | (apply blockQ_hit)
      | (apply blockQ_normal)
      | (apply WC_exit)
      | (apply WC_if_false; eq_refl)
      | (apply WL_on0; eq_refl)
      | (apply X_pv; eq_refl; first | exact trivial | omega)
      | (apply X_cmpF; eq_refl; eq_refl; omega))
      exact ⟨(i + 1, l, sn, vl), ⟨rfl, rfl, rfl, rfl, rfl, rfl, trivial⟩, ⟨hS5, hB6⟩, by simp only; omega⟩
  · have hnone := hB1.none hge
    repeat' (first
      | (apply WC_seqK; intro K hK)
      | (apply hK; clear hK)
      | (clear hK; apply hK; clear hK)
      | (apply WC_region)
      | (apply WL_nil)
      | (apply thenQ_normal)
      | (apply thenQ_exit)
      | (apply blockQ_hit)
      | (apply WC_ret)
      | (apply WC_exit)
      | (apply WC_if_false; eq_refl)
      | (apply ret1; eq_refl)
      | (apply WL_on0; eq_refl)
      | (apply X_pv; eq_refl; first | exact trivial | omega)
      | (apply X_cmpF; eq_refl; eq_refl; omega)
      | (apply X_len; eq_refl))
    exact ⟨false, rfl, ⟨fun h => (by cases h), fun h => absurd h hnone⟩, hS1.chg⟩
end SC
end Go.Proofs.Ytkndegjodnciaaa
end
section
/- trestleref03: symbols. -/
set_option linter.unusedVariables false
set_option linter.unusedSimpArgs false
namespace Go.Proofs.Ytkndegjodnciaaa
namespace SC
open Go.Proofs
/-- What is to be shown later: stepping words stop here. -/
structure Later (p : Prop) : Prop where
  get : p
section
variable {P : Program} {n : Nat} {x y r b : Code} {Q : Post} {e : Env} {w : World}
theorem WC_mid (e1 : Env) (I : World → Prop) (h1 : WC P n x (fun s e' w' => s = .normal ∧ Sub e1 e' ∧ I w') e w) (h2 : Later (∀ w', I w' → WC P n y Q e1 w')) : WC P n (.seq x y) Q e w :=
  WC_seq (h1.mono fun s e' w' ⟨hs, hsub, hI⟩ => by subst hs; exact (h2.get w' hI).weaken hsub)
theorem WC_midB (i : Nat) (e1 : Env) (I : World → Prop) (h1 : WC P n (.seq r (.block i b)) (fun s e' w' => s = .normal ∧ Sub e1 e' ∧ I w') e w) (h2 : Later (∀ w', I w' → WC P n y Q e1 w')) : WC P n (.seq (.seq r (.block i b)) y) Q e w := WC_mid e1 I h1 h2
theorem WC_midR (i : Nat) {l : Array Oper} {d : Bool} (e1 : Env) (I : World → Prop) (h1 : WC P n (.region i l d) (fun s e' w' => s = .normal ∧ Sub e1 e' ∧ I w') e w) (h2 : Later (∀ w', I w' → WC P n y Q e1 w')) : WC P n (.seq (.region i l d) y) Q e w := WC_mid e1 I h1 h2
end
/-- How often a thing has a name before. -/
def SymF (ls : List Sym) (i : Nat) (f : Int → Int → Int) : Prop := ∀ p q, 0 ≤ f p q ∧ (0 < f p q ↔ ∃ k, ∃ hk : k < ls.length, k < i ∧ ls[k].kind = p ∧ ls[k].at_ = q)
theorem SymF.next {ls : List Sym} {i : Nat} {f : Int → Int → Int} (h : SymF ls i f) (hi : i < ls.length) : SymF ls (i + 1) (fun p q => if p = ls[i].kind ∧ q = ls[i].at_ then f ls[i].kind ls[i].at_ + 1 else f p q) := fun p q => by
  by_cases hc : p = ls[i].kind ∧ q = ls[i].at_
  · simp only [if_pos hc]
    have := (h ls[i].kind ls[i].at_).1
    exact ⟨by omega, fun _ => ⟨i, hi, by omega, hc.1.symm, hc.2.symm⟩, fun _ => by omega⟩
  · simp only [if_neg hc]
    refine ⟨(h p q).1, fun hh => ?_, fun ⟨k, hk, hki, h1, h2⟩ => ?_⟩
    · obtain ⟨k, hk, hki, h1, h2⟩ := (h p q).2.1 hh
      exact ⟨k, hk, by omega, h1, h2⟩
    · have : k ≠ i := fun e => by subst e; exact hc ⟨h1.symm, h2.symm⟩
      exact (h p q).2.2 ⟨k, hk, by omega, h1, h2⟩
attribute [local irreducible] WC WL WX WS WO OX Does DoesU Enters CV Pure thenQ blockQ retQ Wants retQC
set_option maxRecDepth 100000
theorem symbols82_cv {w : World} {c : Circ} {h js : Hd} (H : CirAt w c h js) (hs : c.Sane) : CV Try.prog 82 [.agg (ccells c h).toArray] w fun v w' => v = .tuple #[nu (if 0 ≤ goSym c c.symbols 0 fun _ _ => 0 then goSym c c.symbols 0 fun _ _ => 0 else 0), nu (if 0 ≤ goSym c c.symbols 0 fun _ _ => 0 then 35 else 0)] ∧ Chg w w' none_ := by
  have hN : Blk (w.alloc (.cells (ccells c h).toArray 51)) w.heap.size 51 (ccells c h) := Blk.new w _ _
  have hC := Chg.alloc w (.cells (ccells c h).toArray 51) none_
  have hlens := hs.lens
  refine enter 126 [2, 3] Try.func82 rfl rfl rfl (by decide) rfl ?_
  repeat' (first
      | (apply WC_seqK; intro K hK)
      | (apply hK; clear hK)
      | (apply WC_block)
      | (apply WC_region)
      | (apply WL_nil)
      | (apply thenQ_normal)
      | (apply WL_on0; eq_refl)
      | (apply X_pv; eq_refl; first | exact trivial | omega)
      | (apply X_box; eq_refl))
  generalize hr : (goSym c c.symbols 0 fun _ _ => 0) = r
  refine WC_loop (fun s : Nat × (Int → Int → Int) => [(1, pt w.heap.size), (4, nu s.1)])
    (fun s w1 => Chg w w1 none_ ∧ Blk w1 w.heap.size 51 (ccells c h) ∧ SymF c.symbols s.1 s.2 ∧ s.1 ≤ c.symbols.length ∧ goSym c (c.symbols.drop s.1) s.1 s.2 = r) (fun s => c.symbols.length - s.1) (0, fun _ _ => 0) ⟨rfl, rfl, trivial⟩ ⟨hC, hN, fun p q => ⟨Int.le_refl _, fun hh => absurd hh (Int.lt_irrefl 0), fun ⟨k, hk, hki, _⟩ => absurd hki (Nat.not_lt_zero _)⟩, Nat.zero_le _, hr⟩ ?_
  clear hC hN
  rintro ⟨k, f⟩ w1 ⟨hC1, hN1, hf, hk, hgo⟩
  simp only at hf hk hgo
  rcases Nat.lt_or_ge k c.symbols.length with hlt | hge
  · obtain ⟨p, hp, hc⟩ := H.symbols k hlt
    have hbad := fun hb => goSym_bad (c := c) (f := f) hlt hb
    have hokk := fun hb => goSym_ok (c := c) (f := f) hlt hb
    have hfn := hf.next hlt
    have hkind := hs.kinds _ (List.getElem_mem hlt)
    have hnm := hs.names _ (List.getElem_mem hlt)
    generalize hx : c.symbols[k] = s at *
    have e6 : (ccells c h)[0 + 9]? = some (.slice (some p) c.symbols.length (h 9).2) := by rw [← hp]; rfl
    repeat' (first
      | (apply X_loadR; eq_refl; exact hN1; exact e6)
      | (apply X_loadAP (scells s); eq_refl; eq_refl; exact (fun j u hj => cel_chg (hc j u hj) hC1 id))
      | (apply WC_seqK; intro K hK)
      | (apply hK; clear hK)
      | (apply WC_block)
      | (apply WC_region)
      | (apply WL_nil)
      | (apply thenQ_normal)
      | (apply WC_skip)
      | (apply WC_if_true; eq_refl)
      | (apply WL_on0; eq_refl)
      | (apply X_pv; eq_refl; first | exact trivial | omega)
      | (apply X_field; eq_refl)
      | (apply X_cmpT; eq_refl; eq_refl; omega)
      | (apply X_len; eq_refl)
      | (apply X_indexP; eq_refl; eq_refl; omega; omega)
      | (apply X_alloc))
    refine X_doesU (does_storeA (t1 := 117) (vs := scells s) (o := 0) (b := w1.heap.size) (by eq_refl) (by eq_refl) (Blk.newA w1 _ _) rfl (by exact Nat.le_refl 3) (by simp [scells, Value.oneCell'])) ?_
    have hcc : Chg w1 ((w1.alloc (.cells #[.int .u8 0, nu 0, .string ⟨#[]⟩] 117)).setRow w1.heap.size (scells s).toArray) none_ := (Chg.alloc w1 _ none_).trans (Chg.setRow _ w1.heap.size _ (S := fun k => k = w1.heap.size) rfl) fun k hk h => by omega
    refine WL_turn (fun w2 => Chg w w2 none_ ∧ Blk w2 w.heap.size 51 (ccells c h) ∧ Blk w2 w1.heap.size 117 (scells s)) ⟨hC1.trans hcc fun _ _ h => h, hN1.chg hcc id, (Blk.newA w1 _ 117).set (scells s)⟩ ?_
    clear hcc hC1 hN1
    generalize w1.heap.size = b5
    rintro w2 ⟨hC2, hN2, hS2⟩
    repeat' (first
      | (apply WC_midB 2 [(1, pt w.heap.size), (4, nu k), (5, pt b5), (6, nu (manyM c s.kind))] (fun W => W = w2))
      | (apply WC_seqK; intro K hK)
      | (apply hK; clear hK)
      | (apply WC_block)
      | (apply WC_region)
      | (apply WL_nil)
      | (apply thenQ_normal)
      | (apply blockQ_normal)
      | (apply WC_skip)
      | (apply WC_if_true; eq_refl)
      | (apply WC_if_false; eq_refl)
      | (apply WL_on0; eq_refl)
      | (apply X_pv; eq_refl; first | exact trivial | omega)
      | (apply X_field; eq_refl)
      | (apply X_loadR; eq_refl; (first | assumption | (apply Blk.alloc; assumption) | apply Blk.new | apply Blk.newA | (apply Blk.alloc; first | apply Blk.newA | (apply Blk.alloc; first | assumption | apply Blk.newA))); eq_refl)
      | (apply X_cmp; eq_refl; eq_refl; all_goals intro _)
      | (apply X_len; eq_refl))
    any_goals (refine ⟨rfl, ⟨rfl, rfl, rfl, congrArg (fun z => some (nu z)) ?_, trivial⟩, rfl⟩; unfold manyM; repeat (first | rw [if_pos (by assumption)] | rw [if_neg (by assumption)]))
    refine ⟨?_⟩
    rintro _ rfl
    obtain ⟨ok0, hok0⟩ : ∃ b : Bool, b = true ↔ (0 ≤ s.at_ ∧ s.at_ < manyM c s.kind ∧ 1 ≤ s.name.size ∧ s.name.size ≤ 64) := ⟨decide _, decide_eq_true_iff⟩
    generalize hM : manyM c s.kind = M at *
    rename_i w2
    repeat' (first
      | (apply WC_midR 21 [(1, pt w.heap.size), (4, nu k), (5, pt b5), (7, .bool ok0)] (fun W => W = w2))
      | (apply WC_region)
      | (apply WL_nil)
      | (apply WL_on0; eq_refl)
      | (apply WL_onG; eq_refl; eq_refl; eq_refl; eq_refl)
      | (apply WL_noG; eq_refl; eq_refl; eq_refl; eq_refl)
      | (apply X_pv; eq_refl; first | exact trivial | omega)
      | (apply X_field; eq_refl)
      | (apply X_loadR; eq_refl; (first | assumption | (apply Blk.alloc; assumption) | apply Blk.new | apply Blk.newA | (apply Blk.alloc; first | apply Blk.newA | (apply Blk.alloc; first | assumption | apply Blk.newA))); eq_refl)
      | (apply X_cmp; eq_refl; eq_refl; all_goals intro _)
      | (apply X_lenS; eq_refl))
    any_goals (refine ⟨rfl, ⟨rfl, rfl, rfl, congrArg (fun z => some (Value.bool z)) ?_, trivial⟩, rfl⟩; first | (exact (hok0.2 (by omega)).symm) | (exact (Bool.eq_false_iff.2 fun hh => by have := hok0.1 hh; omega).symm))
    refine ⟨?_⟩
    rintro _ rfl
    rename_i w2
    obtain ⟨ok1, hok1⟩ : ∃ b : Bool, b = true ↔ (ok0 = true ∧ ¬ lowName s.name) := by classical exact ⟨decide _, decide_eq_true_iff⟩
    repeat' (first
      | (apply WC_midB 3 [(1, pt w.heap.size), (4, nu k), (5, pt b5), (7, .bool ok1)] (fun W => W = w2))
      | (apply WC_seqK; intro K hK)
      | (apply hK; clear hK)
      | (apply WC_block)
      | (apply WC_region)
      | (apply WL_nil)
      | (apply thenQ_normal)
      | (apply WL_on0; eq_refl)
      | (apply X_pv; eq_refl; first | exact trivial | omega))
    · refine WC_loop (fun q : Nat × Bool => [(1, pt w.heap.size), (4, nu k), (5, pt b5), (7, .bool q.2), (8, nu q.1)])
        (fun q W => W = w2 ∧ q.1 ≤ s.name.size ∧ (q.2 = true → ok0 = true ∧ ∀ i, i < q.1 → ¬ byteAt s.name i < 32) ∧ (q.2 = false → ok0 = false ∨ lowName s.name)) (fun q => s.name.size - q.1) (0, ok0) ⟨rfl, rfl, rfl, rfl, rfl, trivial⟩ ⟨rfl, Nat.zero_le _, fun h => ⟨h, fun i hi => absurd hi (Nat.not_lt_zero _)⟩, fun h => .inl h⟩ ?_
      rintro ⟨j, ok⟩ w3 ⟨rfl, hj, hT, hF⟩
      simp only at hj hT hF
      cases ok with
      | false =>
        have e1 : false = ok1 := (Bool.eq_false_iff.2 fun hh => by
          obtain ⟨h1, h2⟩ := hok1.1 hh
          rcases hF rfl with g | g
          · rw [g] at h1; cases h1
          · exact h2 g).symm
        repeat' (first
      | (apply WC_seqK; intro K hK)
      | (apply hK; clear hK)
      | (apply WC_region)
      | (apply WL_nil)
      | (apply thenQ_normal)
      | (apply thenQ_exit)
      | (apply blockQ_hit)
      | (apply WC_exit)
      | (apply WC_if_false; eq_refl)
      | (apply WL_on0; eq_refl)
      | (apply WL_noG; eq_refl; eq_refl; eq_refl; eq_refl)
      | (apply X_pv; eq_refl; first | exact trivial | omega))
        exact ⟨rfl, ⟨rfl, rfl, rfl, congrArg (fun z => some (Value.bool z)) e1, trivial⟩, rfl⟩
      | true =>
        obtain ⟨hT1, hT2⟩ := hT rfl
        rcases Nat.lt_or_ge j s.name.size with hjl | hjg
        · repeat' (first
      | (apply X_idxS; eq_refl; eq_refl; omega)
      | (apply WC_seqK; intro K hK)
      | (apply hK; clear hK)
      | (apply WC_block)
      | (apply WC_region)
      | (apply WL_nil)
      | (apply thenQ_normal)
      | (apply blockQ_normal)
      | (apply WC_skip)
      | (apply WC_if_true; eq_refl)
      | (apply WL_on0; eq_refl)
      | (apply WL_onG; eq_refl; eq_refl; eq_refl; eq_refl)
      | (apply X_pv; eq_refl; first | exact trivial | omega)
      | (apply X_field; eq_refl)
      | (apply X_loadR; eq_refl; (first | assumption | (apply Blk.alloc; assumption) | apply Blk.new | apply Blk.newA | (apply Blk.alloc; first | apply Blk.newA | (apply Blk.alloc; first | assumption | apply Blk.newA))); eq_refl)
      | (apply X_cmpT; eq_refl; eq_refl; omega)
      | (apply X_cmp; eq_refl; eq_refl; all_goals intro _)
      | (apply X_lenS; eq_refl))
          · rename_i hb9
            have hb9 : 32 ≤ byteAt s.name j := hb9
            exact ⟨(j + 1, true), ⟨rfl, rfl, rfl, rfl, rfl, trivial⟩, ⟨rfl, hjl, fun _ => ⟨hT1, fun i hi => by
              rcases Nat.lt_or_ge i j with hh | hh
              · exact hT2 i hh
              · obtain rfl : i = j := by omega
                omega⟩, fun h => (by cases h)⟩, by simp only; omega⟩
          · rename_i hb9
            have hb9 : ¬ 32 ≤ byteAt s.name j := hb9
            exact ⟨(j + 1, false), ⟨rfl, rfl, rfl, rfl, rfl, trivial⟩, ⟨rfl, hjl, fun h => (by cases h), fun _ => .inr ⟨j, hjl, by omega⟩⟩, by simp only; omega⟩
        · have e1 : true = ok1 := (hok1.2 ⟨hT1, fun ⟨i, hi, hb⟩ => hT2 i (by omega) hb⟩).symm
          repeat' (first
      | (apply WC_seqK; intro K hK)
      | (apply hK; clear hK)
      | (apply WC_region)
      | (apply WL_nil)
      | (apply thenQ_normal)
      | (apply thenQ_exit)
      | (apply blockQ_hit)
      | (apply WC_exit)
      | (apply WC_if_false; eq_refl)
      | (apply WL_on0; eq_refl)
      | (apply WL_onG; eq_refl; eq_refl; eq_refl; eq_refl)
      | (apply X_pv; eq_refl; first | exact trivial | omega)
      | (apply X_field; eq_refl)
      | (apply X_loadR; eq_refl; (first | assumption | (apply Blk.alloc; assumption) | apply Blk.new | apply Blk.newA | (apply Blk.alloc; first | apply Blk.newA | (apply Blk.alloc; first | assumption | apply Blk.newA))); eq_refl)
      | (apply X_cmpF; eq_refl; eq_refl; omega)
      | (apply X_lenS; eq_refl))
          exact ⟨rfl, ⟨rfl, rfl, rfl, congrArg (fun z => some (Value.bool z)) e1, trivial⟩, rfl⟩
    refine ⟨?_⟩
    rintro _ rfl
    rename_i w2
    obtain ⟨ok2, hok2⟩ : ∃ b : Bool, b = true ↔ (ok1 = true ∧ ∀ q (hq : q < c.symbols.length), q < k → ¬ (c.symbols[q].kind = s.kind ∧ c.symbols[q].at_ = s.at_)) := by classical exact ⟨decide _, decide_eq_true_iff⟩
    repeat' (first
      | (apply WC_midB 5 [(1, pt w.heap.size), (4, nu k), (5, pt b5), (7, .bool ok2)] (fun W => Chg w W none_ ∧ Blk W w.heap.size 51 (ccells c h)))
      | (apply WC_seqK; intro K hK)
      | (apply hK; clear hK)
      | (apply WC_block)
      | (apply WC_region)
      | (apply WL_nil)
      | (apply thenQ_normal)
      | (apply WL_on0; eq_refl)
      | (apply X_pv; eq_refl; first | exact trivial | omega))
    · refine WC_loop (fun q : Nat × Bool => [(1, pt w.heap.size), (4, nu k), (5, pt b5), (7, .bool q.2), (9, nu q.1)])
        (fun q W => (Chg w W none_ ∧ Blk W w.heap.size 51 (ccells c h) ∧ Blk W b5 117 (scells s)) ∧ q.1 ≤ k ∧ (q.2 = true → ok1 = true ∧ ∀ i (hi : i < c.symbols.length), i < q.1 → ¬ (c.symbols[i].kind = s.kind ∧ c.symbols[i].at_ = s.at_)) ∧ (q.2 = false → ok1 = false ∨ ∃ i, ∃ hi : i < c.symbols.length, i < k ∧ c.symbols[i].kind = s.kind ∧ c.symbols[i].at_ = s.at_)) (fun q => k - q.1) (0, ok1) ⟨rfl, rfl, rfl, rfl, rfl, trivial⟩ ⟨⟨hC2, hN2, hS2⟩, Nat.zero_le _, fun h => ⟨h, fun i _ hi => absurd hi (Nat.not_lt_zero _)⟩, fun h => .inl h⟩ ?_
      rintro ⟨j, ok⟩ w3 ⟨⟨hC3, hN3, hS3⟩, hj, hT, hF⟩
      simp only at hj hT hF
      cases ok with
      | false =>
        have e1 : false = ok2 := (Bool.eq_false_iff.2 fun hh => by
          obtain ⟨h1, h2⟩ := hok2.1 hh
          rcases hF rfl with g | ⟨i, hi, g1, g2⟩
          · rw [g] at h1; cases h1
          · exact h2 i hi g1 g2).symm
        repeat' (first
      | (apply WC_seqK; intro K hK)
      | (apply hK; clear hK)
      | (apply WC_region)
      | (apply WL_nil)
      | (apply thenQ_normal)
      | (apply thenQ_exit)
      | (apply blockQ_hit)
      | (apply WC_exit)
      | (apply WC_if_false; eq_refl)
      | (apply WL_on0; eq_refl)
      | (apply WL_noG; eq_refl; eq_refl; eq_refl; eq_refl)
      | (apply X_pv; eq_refl; first | exact trivial | omega))
        exact ⟨rfl, ⟨rfl, rfl, rfl, congrArg (fun z => some (Value.bool z)) e1, trivial⟩, hC3, hN3⟩
      | true =>
        obtain ⟨hT1, hT2⟩ := hT rfl
        rcases Nat.lt_or_ge j k with hjl | hjg
        · have hjs : j < c.symbols.length := by omega
          obtain ⟨p2, hp2, hc2⟩ := H.symbols j hjs
          rw [hp] at hp2
          cases hp2
          have hT3 := hT2
          generalize hy : c.symbols[j] = y at *
          repeat' (first
      | (apply WC_seqK; intro K hK)
      | (apply hK; clear hK)
      | (apply WC_block)
      | (apply WC_region)
      | (apply WL_nil)
      | (apply thenQ_normal)
      | (apply WC_skip)
      | (apply WC_if_true; eq_refl)
      | (apply WL_on0; eq_refl)
      | (apply WL_onG; eq_refl; eq_refl; eq_refl; eq_refl)
      | (apply X_pv; eq_refl; first | exact trivial | omega)
      | (apply X_cmpT; eq_refl; eq_refl; omega))
          refine WC_draws [(0, true), (1, true), (2, true), (3, true), (4, true), (5, true), (6, true), (7, true), (8, true), (9, true), (10, true), (11, true), (12, true), (13, true), (14, true), (15, true), (16, true), (17, true), (18, true), (19, true), (20, true)] (fun W => Chg w W none_ ∧ Blk W w.heap.size 51 (ccells c h) ∧ Blk W b5 117 (scells s)) mixed (by kernel_rfl) (by kernel_rfl) ?_
          have hS : Chg w w3.drew none_ ∧ Blk w3.drew w.heap.size 51 (ccells c h) ∧ Blk w3.drew b5 117 (scells s) := ⟨hC3.dr, hN3, hS3⟩
          by_cases hkk : y.kind = s.kind
          · by_cases haa : y.at_ = s.at_
            · repeat' (first
      | (apply O_loadR; eq_refl; (exact fun _ h => h.2.1); exact e6; assumption)
      | (apply O_loadR; eq_refl; (exact fun _ h => h.2.2); eq_refl; assumption)
      | (apply O_loadC; eq_refl; (exact fun W h => cel_chg (hc2 0 _ rfl) h.1 id); assumption)
      | (apply O_loadC; eq_refl; (exact fun W h => cel_chg (hc2 1 _ rfl) h.1 id); assumption)
      | (apply hK; clear hK)
      | (apply WC_region)
      | (apply WL_nil)
      | (apply thenQ_normal)
      | (apply blockQ_normal)
      | (apply WS_nil)
      | (apply WS_next; eq_refl)
      | (apply WO_on0; eq_refl)
      | (apply WO_onG; eq_refl; eq_refl; eq_refl; eq_refl)
      | (apply O_pv; eq_refl; (first | exact trivial | omega); (first | assumption | exact trivial))
      | (apply O_field; eq_refl; (first | assumption | exact trivial))
      | (apply O_cmpF; eq_refl; eq_refl; omega; (first | assumption | exact trivial))
      | (apply O_indexP; eq_refl; eq_refl; omega; omega; (first | assumption | exact trivial))
      | (apply O_fieldP; eq_refl; (first | assumption | exact trivial))
      | (apply WL_on0; eq_refl)
      | (apply X_pv; eq_refl; first | exact trivial | omega))
              exact ⟨(j + 1, false), ⟨rfl, rfl, rfl, rfl, rfl, trivial⟩, ⟨hS, hjl, fun h => (by cases h), fun _ => .inr ⟨j, hjs, hjl, by rw [hy]; exact ⟨hkk, haa⟩⟩⟩, by simp only; omega⟩
            · repeat' (first
      | (apply O_loadR; eq_refl; (exact fun _ h => h.2.1); exact e6; assumption)
      | (apply O_loadR; eq_refl; (exact fun _ h => h.2.2); eq_refl; assumption)
      | (apply O_loadC; eq_refl; (exact fun W h => cel_chg (hc2 0 _ rfl) h.1 id); assumption)
      | (apply O_loadC; eq_refl; (exact fun W h => cel_chg (hc2 1 _ rfl) h.1 id); assumption)
      | (apply hK; clear hK)
      | (apply WC_region)
      | (apply WL_nil)
      | (apply thenQ_normal)
      | (apply blockQ_normal)
      | (apply WS_nil)
      | (apply WS_next; eq_refl)
      | (apply WO_on0; eq_refl)
      | (apply WO_onG; eq_refl; eq_refl; eq_refl; eq_refl)
      | (apply O_pv; eq_refl; (first | exact trivial | omega); (first | assumption | exact trivial))
      | (apply O_field; eq_refl; (first | assumption | exact trivial))
      | (apply O_cmpT; eq_refl; eq_refl; omega; (first | assumption | exact trivial))
      | (apply O_cmpF; eq_refl; eq_refl; omega; (first | assumption | exact trivial))
      | (apply O_indexP; eq_refl; eq_refl; omega; omega; (first | assumption | exact trivial))
      | (apply O_fieldP; eq_refl; (first | assumption | exact trivial))
      | (apply WL_on0; eq_refl)
      | (apply X_pv; eq_refl; first | exact trivial | omega))
              refine ⟨(j + 1, true), ⟨rfl, rfl, rfl, rfl, rfl, trivial⟩, ⟨hS, hjl, fun _ => ⟨hT1, fun i hi hij => ?_⟩, fun h => (by cases h)⟩, by simp only; omega⟩
              rcases Nat.lt_or_ge i j with hh | hh
              · exact hT3 i hi hh
              · obtain rfl : i = j := by omega
                rw [hy]; exact fun hh => haa hh.2
          · repeat' (first
      | (apply O_loadR; eq_refl; (exact fun _ h => h.2.1); exact e6; assumption)
      | (apply O_loadR; eq_refl; (exact fun _ h => h.2.2); eq_refl; assumption)
      | (apply O_loadC; eq_refl; (exact fun W h => cel_chg (hc2 0 _ rfl) h.1 id); assumption)
      | (apply hK; clear hK)
      | (apply WC_region)
      | (apply WL_nil)
      | (apply thenQ_normal)
      | (apply blockQ_normal)
      | (apply WS_nil)
      | (apply WS_next; eq_refl)
      | (apply WO_on0; eq_refl)
      | (apply WO_noG; eq_refl; eq_refl; eq_refl; eq_refl; (first | assumption | exact trivial))
      | (apply O_pv; eq_refl; (first | exact trivial | omega); (first | assumption | exact trivial))
      | (apply O_field; eq_refl; (first | assumption | exact trivial))
      | (apply O_cmpT; eq_refl; eq_refl; omega; (first | assumption | exact trivial))
      | (apply O_indexP; eq_refl; eq_refl; omega; omega; (first | assumption | exact trivial))
      | (apply O_fieldP; eq_refl; (first | assumption | exact trivial))
      | (apply WL_on0; eq_refl)
      | (apply X_pv; eq_refl; first | exact trivial | omega))
            refine ⟨(j + 1, true), ⟨rfl, rfl, rfl, rfl, rfl, trivial⟩, ⟨hS, hjl, fun _ => ⟨hT1, fun i hi hij => ?_⟩, fun h => (by cases h)⟩, by simp only; omega⟩
            rcases Nat.lt_or_ge i j with hh | hh
            · exact hT3 i hi hh
            · obtain rfl : i = j := by omega
              rw [hy]; exact fun hh => hkk hh.1
        · have e1 : true = ok2 := (hok2.2 ⟨hT1, fun i hi hik => hT2 i hi (by omega)⟩).symm
          repeat' (first
      | (apply WC_seqK; intro K hK)
      | (apply hK; clear hK)
      | (apply WC_region)
      | (apply WL_nil)
      | (apply thenQ_normal)
      | (apply thenQ_exit)
      | (apply blockQ_hit)
      | (apply WC_exit)
      | (apply WC_if_false; eq_refl)
      | (apply WL_on0; eq_refl)
      | (apply WL_onG; eq_refl; eq_refl; eq_refl; eq_refl)
      | (apply X_pv; eq_refl; first | exact trivial | omega)
      | (apply X_cmpF; eq_refl; eq_refl; omega))
          exact ⟨rfl, ⟨rfl, rfl, rfl, congrArg (fun z => some (Value.bool z)) e1, trivial⟩, hC3, hN3⟩
    refine ⟨?_⟩
    rintro w4 ⟨hC4, hN4⟩
    have hsb : ok2 = true ↔ ¬ symBad c f s := by
      rw [hok2, hok1, hok0]
      have hsz : s.name = ByteArray.empty ↔ s.name.size = 0 := ⟨fun h => by rw [h]; rfl, fun h => ByteArray.size_eq_zero_iff.1 h⟩
      have hff : 0 < f s.kind s.at_ ↔ ∃ q, ∃ hq : q < c.symbols.length, q < k ∧ c.symbols[q].kind = s.kind ∧ c.symbols[q].at_ = s.at_ := (hf _ _).2
      unfold symBad
      rw [hM, hff, hsz]
      constructor
      · rintro ⟨⟨⟨h1, h2, h3, h4⟩, h5⟩, h6⟩ (g | g | g | g | ⟨q, hq, g1, g2⟩ | g)
        · omega
        · omega
        · omega
        · omega
        · exact h6 q hq g1 g2
        · exact h5 g
      · intro hb
        refine ⟨⟨⟨?_, ?_, ?_, ?_⟩, fun g => hb (.inr (.inr (.inr (.inr (.inr g)))))⟩, fun q hq g1 g2 => hb (.inr (.inr (.inr (.inr (.inl ⟨q, hq, g1, g2⟩)))))⟩
        · exact Int.not_lt.1 fun g => hb (.inl g)
        · exact Int.not_le.1 fun g => hb (.inr (.inl g))
        · exact Nat.pos_of_ne_zero fun g => hb (.inr (.inr (.inl g)))
        · exact Nat.not_lt.1 fun g => hb (.inr (.inr (.inr (.inl g))))
    cases ok2 with
    | false =>
      have hb : symBad c f s := Classical.byContradiction fun g => by have := hsb.2 g; cases this
      rw [hbad hb] at hgo
      repeat' (first
      | (apply WC_seqK; intro K hK)
      | (apply hK; clear hK)
      | (apply WC_region)
      | (apply WL_nil)
      | (apply thenQ_normal)
      | (apply thenQ_ret)
      | (apply blockQ_ret)
      | (apply WC_ret)
      | (apply WC_if_true; eq_refl)
      | (apply ret2; eq_refl; eq_refl)
      | (apply WL_on0; eq_refl)
      | (apply X_pv; eq_refl; first | exact trivial | omega))
      refine ⟨?_, hC4⟩
      first | rw [if_pos (by omega), if_pos (by omega), hgo] | rw [hr, if_pos (by omega), if_pos (by omega), hgo]
    | true =>
      rw [hokk (hsb.1 rfl)] at hgo
      repeat' (first
      | (apply WC_seqK; intro K hK)
      | (apply hK; clear hK)
      | (apply WC_region)
      | (apply WL_nil)
      | (apply thenQ_normal)
      | (apply blockQ_normal)
      | (apply WC_skip)
      | (apply WC_if_false; eq_refl)
      | (apply WL_on0; eq_refl)
      | (apply X_pv; eq_refl; first | exact trivial | omega))
      exact ⟨(k + 1, _), ⟨rfl, rfl, trivial⟩, ⟨hC4, hN4, hfn, hlt, hgo⟩, by simp only; omega⟩
  · rw [List.drop_eq_nil_of_le hge] at hgo
    have e : r = -1 := hgo.symm
    repeat' (first
      | (apply WC_seqK; intro K hK)
      | (apply hK; clear hK)
      | (clear hK; apply hK; clear hK)
      | (apply WC_region)
      | (apply WL_nil)
      | (apply thenQ_normal)
      | (apply thenQ_exit)
      | (apply blockQ_hit)
      | (apply WC_ret)
      | (apply WC_exit)
      | (apply WC_if_false; eq_refl)
      | (apply ret2; eq_refl; eq_refl)
      | (apply WL_on0; eq_refl)
      | (apply X_pv; eq_refl; first | exact trivial | omega)
      | (apply X_field; eq_refl)
      | (apply X_loadR; eq_refl; (first | assumption | (apply Blk.alloc; assumption) | apply Blk.new | apply Blk.newA | (apply Blk.alloc; first | apply Blk.newA | (apply Blk.alloc; first | assumption | apply Blk.newA))); eq_refl)
      | (apply X_cmpF; eq_refl; eq_refl; omega)
      | (apply X_len; eq_refl))
    exact ⟨by rw [hr, e, if_neg (by decide), if_neg (by decide)], hC1⟩
end SC
end Go.Proofs.Ytkndegjodnciaaa
end
section
/- trestleref03: Check. -/
set_option linter.unusedVariables false
set_option linter.unusedSimpArgs false
namespace Go.Proofs.Ytkndegjodnciaaa
namespace SC
open Go.Proofs
theorem mem_bytesI {s : ByteArray} {x : Int} : x ∈ bytesI s ↔ ∃ k, k < s.size ∧ byteAt s k = x := by
  have hl : (bytesI s).length = s.size := bytesI_len s
  have hb : ∀ k, byteAt s k = (bytesI s).getD k 0 := fun k => rfl
  constructor
  · intro h
    obtain ⟨k, hk, rfl⟩ := List.mem_iff_getElem.1 h
    exact ⟨k, by omega, by rw [hb]; simp [hk]⟩
  · rintro ⟨k, hk, rfl⟩
    have hk' : k < (bytesI s).length := by omega
    rw [hb, List.getD_eq_getElem?_getD, List.getElem?_eq_getElem hk']
    exact List.getElem_mem hk'
attribute [local irreducible] WC WL WX WS WO OX Does DoesU Enters CV Pure thenQ blockQ retQ Wants retQC
set_option maxRecDepth 100000
theorem checkRef_cv {w : World} {c : Circ} {h js : Hd} (H : CirAt w c h js) (hs : c.Sane) (ho : c.Okay) (hf : c.Fits) : CV Try.prog 25 [.agg (ccells c h).toArray] w fun v w' => v = .tuple #[nu (lookM c).1, nu (lookM c).2] ∧ Chg w w' none_ := by
  have hI0 : Blk (w.alloc (.cells (ccells c h).toArray 51)) w.heap.size 51 (ccells c h) := Blk.new w _ _
  have hC0 := Chg.alloc w (.cells (ccells c h).toArray 51) none_
  have hsz := size_cv (H.chg hC0) hf ho
  refine enter 97 [2, 3] Try.func25 rfl rfl rfl (by decide) rfl ?_
  repeat' (first
      | (apply X_fn; eq_refl; exact hsz; rintro _ w1 ⟨rfl, hC1⟩; have hI1 := hI0.chg hC1 id; have hC1' := hC0.trans hC1 fun _ _ h => h)
      | (apply WC_seqK; intro K hK)
      | (apply hK; clear hK)
      | (apply WC_region)
      | (apply WL_nil)
      | (apply thenQ_normal)
      | (apply thenQ_ret)
      | (apply WC_ret)
      | (apply WC_skip)
      | (apply WC_if_true; eq_refl)
      | (apply WC_if_false; eq_refl)
      | (apply ret2; eq_refl; eq_refl)
      | (apply WL_on0; eq_refl)
      | (apply X_pv; eq_refl; first | exact trivial | omega)
      | (apply X_loadW; eq_refl; (first | assumption | (apply Blk.alloc; assumption) | apply Blk.new | apply Blk.newA | (apply Blk.alloc; first | apply Blk.newA | (apply Blk.alloc; first | assumption | apply Blk.newA))); eq_refl)
      | (apply X_cmp; eq_refl; eq_refl; all_goals intro _)
      | (apply X_box; eq_refl))
  · exact ⟨by unfold lookM; rw [if_pos (by assumption)], hC1'⟩
  have hz : sizesM c = 0 := Classical.byContradiction (by assumption)
  obtain ⟨hm0, hm1, hln, hsum⟩ := sizesM_ok hz
  have hdf := defined_cv (H.chg hC1') ho ⟨hm0, hm1⟩
  have hl1 : lookM c = if (definesM c (T0 c)).1.2 ≠ 0 then (definesM c (T0 c)).1
    else if (usesM c (tabM c)).2 ≠ 0 then usesM c (tabM c)
    else if 0 ≤ cycM c.ands.length (gateB (tabM c) c) then (cycM c.ands.length (gateB (tabM c) c), 34)
    else if 0 ≤ goSym c c.symbols 0 (fun _ _ => 0) then (goSym c c.symbols 0 (fun _ _ => 0), 35)
    else if 0 ≤ goCom c.comments 0 then (goCom c.comments 0, 36)
    else (0, 0) := by unfold lookM; rw [if_neg (by assumption)]
  repeat' (first
      | (apply X_fn; eq_refl; exact hdf; rintro _ w2 ⟨hC2, ⟨hd, rfl⟩ | ⟨hd, b, n, hb0, hn, hnl, rfl, hB2⟩⟩)
      | (apply WC_seqK; intro K hK)
      | (apply hK; clear hK)
      | (apply WC_region)
      | (apply WL_nil)
      | (apply thenQ_normal)
      | (apply thenQ_ret)
      | (apply WC_ret)
      | (apply WC_skip)
      | (apply WC_if_true; eq_refl)
      | (apply WC_if_false; eq_refl)
      | (apply ret2; eq_refl; eq_refl)
      | (apply WL_on0; eq_refl)
      | (apply X_pv; eq_refl; first | exact trivial | omega)
      | (apply X_cmpT; eq_refl; eq_refl; omega)
      | (apply X_cmpF; eq_refl; eq_refl; omega))
  · exact ⟨by rw [hl1, if_pos hd], hC1'.trans hC2 fun _ _ h => h⟩
  rw [if_neg (fun hh => hh hd)] at hl1
  have hTO : TabOk c (tabM c) := definesM_spec hm0 hd
  have hC2' := hC1'.trans hC2 fun _ _ h => h
  have hI2 := hI1.chg hC2 id
  have hus := uses_cv' (H.chg hC2') ho ⟨hm0, hm1⟩ hB2 (by rw [hnl]; exact hn) hnl.symm
  repeat' (first
      | (apply X_fn; eq_refl; exact hus; rintro _ w3 ⟨rfl, hC3⟩; have hI3 := hI2.chg hC3 id; have hC3' := hC2'.trans hC3 fun _ _ h => h)
      | (apply WC_seqK; intro K hK)
      | (apply hK; clear hK)
      | (apply WC_region)
      | (apply WL_nil)
      | (apply thenQ_normal)
      | (apply thenQ_ret)
      | (apply WC_ret)
      | (apply WC_skip)
      | (apply WC_if_true; eq_refl)
      | (apply WC_if_false; eq_refl)
      | (apply ret2; eq_refl; eq_refl)
      | (apply WL_on0; eq_refl)
      | (apply X_pv; eq_refl; first | exact trivial | omega)
      | (apply X_loadW; eq_refl; (first | assumption | (apply Blk.alloc; assumption) | apply Blk.new | apply Blk.newA | (apply Blk.alloc; first | apply Blk.newA | (apply Blk.alloc; first | assumption | apply Blk.newA))); eq_refl)
      | (apply X_cmp; eq_refl; eq_refl; all_goals intro _))
  · exact ⟨by rw [hl1, if_pos (by assumption)], hC3'⟩
  have hu0 : (usesM c (tabM c)).2 = 0 := Classical.byContradiction (by assumption)
  rw [if_neg (fun hh => hh hu0)] at hl1
  have hUA := usesM_spec.1 hu0
  have hna : c.ands.length ≤ 16384 := by have := hln (c.ands.length : Int) (by simp [Circ.lens]); omega
  have hB := hTO.below hUA
  clear hus hdf hsz hB2
  refine WC_draws [(0, true), (3, true), (4, true), (5, true), (1, false), (2, true), (6, true)] (fun W => Chg w W none_ ∧ Blk W w.heap.size 51 (ccells c h)) mixed (by kernel_rfl) (by kernel_rfl) ?_
  have hS : Chg w w3.drew none_ ∧ Blk w3.drew w.heap.size 51 (ccells c h) := ⟨hC3'.dr, hI3⟩
  have htd := told_cv (H.chg hS.1) hTO hUA ⟨hm0, hm1⟩ hna
  repeat' (first
      | (apply O_loadW; eq_refl; (exact fun _ h => h.2); eq_refl; assumption)
      | (apply O_loadR; eq_refl; (exact fun _ h => h.2); eq_refl; assumption)
      | (apply O_fn; eq_refl; exact htd; rintro v4 w4 ⟨hC4, out, hall, hrow⟩; obtain ⟨A4, cp4, rfl⟩ := row_form' hrow; have hS4 : Chg w w4 none_ ∧ Blk w4 w.heap.size 51 (ccells c h) := ⟨hS.1.trans hC4 fun k hk hh => hh, hS.2.chg hC4 id⟩; have hol := hall.told.size; refine ⟨fun _ => hS4, ?_⟩)
      | (apply WC_seqK; intro K hK)
      | (apply hK; clear hK)
      | (apply WC_region)
      | (apply thenQ_normal)
      | (apply WC_skip)
      | (apply WC_if_true; eq_refl)
      | (apply WC_if_false; eq_refl)
      | (apply WS_nil)
      | (apply WS_next; eq_refl)
      | (apply WO_on0; eq_refl)
      | (apply O_field; eq_refl; (first | assumption | exact trivial))
      | (apply O_cmp; eq_refl; eq_refl; (first | assumption | exact trivial); all_goals intro _)
      | (apply O_len; eq_refl; (first | assumption | exact trivial))
      | (apply WL_on0; eq_refl))
  all_goals obtain ⟨hC4', hI4⟩ := hS4
  · have hlt0 : out.length < c.ands.length := by omega
    have hgt := gates80_cv (H.chg hC4') hTO ⟨hm0, hm1⟩ hna
    repeat' (first
      | (apply X_fn; eq_refl; exact hgt; rintro _ w5 ⟨rfl, hG5, hC5⟩; have hI5 := hI4.chg hC5 id; have hC5' := hC4'.trans hC5 fun _ _ h => h)
      | (apply WC_seqK; intro K hK)
      | (apply hK; clear hK)
      | (apply WC_block)
      | (apply WC_region)
      | (apply WL_nil)
      | (apply thenQ_normal)
      | (apply WL_on0; eq_refl)
      | (apply X_pv; eq_refl; first | exact trivial | omega)
      | (apply X_loadW; eq_refl; (first | assumption | (apply Blk.alloc; assumption) | apply Blk.new | apply Blk.newA | (apply Blk.alloc; first | apply Blk.newA | (apply Blk.alloc; first | assumption | apply Blk.newA))); eq_refl))
    generalize w4.heap.size + 1 = g at *
    refine WC_loop (fun i : Nat => [(1, pt w.heap.size), (10, .slice (some ⟨g, 0, none⟩) (gatesM c).length (gatesM c).length), (11, nu i)])
      (fun i W => Chg w W none_ ∧ Blk W w.heap.size 51 (ccells c h) ∧ Blk W g 3 ((gatesM c).map nu) ∧ i ≤ c.ands.length ∧ ∀ j, rg c.ands.length j → j < (i : Int) → ¬ Hangs (gateB (tabM c) c) j j) (fun i => c.ands.length - i) 0 ⟨rfl, rfl, rfl, trivial⟩ ⟨hC5', hI5, hG5, Nat.zero_le _, fun j hj hj2 => by unfold rg at hj; omega⟩ ?_
    clear hC5' hI5 hG5 hC5 w5
    rintro i w5 ⟨hC5, hI5, hG5, hi, hno⟩
    rcases Nat.lt_or_ge i c.ands.length with hlt | hge
    · have hri : rg c.ands.length (i : Int) := ⟨by omega, by omega⟩
      have hrd := round_cv (H.chg hC5) hG5 hTO hUA ⟨hm0, hm1⟩ hna hri
      repeat' (first
      | (apply X_fn; eq_refl; exact hrd; rintro _ w6 ⟨b, rfl, hb6, hC6⟩; have hI6 := hI5.chg hC6 id; have hC6' := hC5.trans hC6 fun _ _ h => h; cases b)
      | (apply WC_seqK; intro K hK)
      | (apply hK; clear hK)
      | (apply WC_block)
      | (apply WC_region)
      | (apply WL_nil)
      | (apply thenQ_normal)
      | (apply thenQ_ret)
      | (apply blockQ_ret)
      | (apply blockQ_normal)
      | (apply WC_ret)
      | (apply WC_skip)
      | (apply WC_if_true; eq_refl)
      | (apply WC_if_false; eq_refl)
      | (apply ret2; eq_refl; eq_refl)
      | (apply WL_on0; eq_refl)
      | (apply X_pv; eq_refl; first | exact trivial | omega)
      | (apply X_field; eq_refl)
      | (apply X_loadR; eq_refl; (first | assumption | (apply Blk.alloc; assumption) | apply Blk.new | apply Blk.newA | (apply Blk.alloc; first | apply Blk.newA | (apply Blk.alloc; first | assumption | apply Blk.newA))); eq_refl)
      | (apply X_loadW; eq_refl; (first | assumption | (apply Blk.alloc; assumption) | apply Blk.new | apply Blk.newA | (apply Blk.alloc; first | apply Blk.newA | (apply Blk.alloc; first | assumption | apply Blk.newA))); eq_refl)
      | (apply X_cmpT; eq_refl; eq_refl; omega)
      | (apply X_len; eq_refl))
      · refine ⟨i + 1, ⟨rfl, rfl, rfl, trivial⟩, ⟨hC6', hI6, hG5.chg hC6 id, hlt, fun j hj hji hh => ?_⟩, by omega⟩
        rcases Int.lt_or_le j (i : Int) with h1 | h1
        · exact hno j hj h1 hh
        · have : j = i := by omega
          subst this
          have := hb6.2 hh
          cases this
      · have hcy : CycOf c.ands.length (gateB (tabM c) c) (i : Int) := ⟨out, hall, .inr ⟨hlt0, hri, hb6.1 rfl, hno⟩⟩
        rw [cycM_eq hcy, if_pos (by omega)] at hl1
        exact ⟨by rw [hl1], hC6'⟩
    · obtain ⟨j, hj, hh⟩ := hall.round hB hlt0
      exact absurd hh (hno j hj (by unfold rg at hj; omega))
  have hcy : CycOf c.ands.length (gateB (tabM c) c) (-1) := ⟨out, hall, .inl ⟨by omega, rfl⟩⟩
  rw [cycM_eq hcy, if_neg (by decide)] at hl1
  have hsy := symbols82_cv (H.chg hC4') hs
  by_cases hgs : 0 ≤ goSym c c.symbols 0 fun _ _ => 0
  · rw [if_pos hgs, if_pos hgs] at hsy
    rw [if_pos hgs] at hl1
    repeat' (first
      | (apply X_fn; eq_refl; exact hsy; rintro _ w5 ⟨rfl, hC5⟩)
      | (apply WC_seqK; intro K hK)
      | (apply hK; clear hK)
      | (apply WC_region)
      | (apply WL_nil)
      | (apply thenQ_normal)
      | (apply thenQ_ret)
      | (apply WC_ret)
      | (apply WC_if_true; eq_refl)
      | (apply ret2; eq_refl; eq_refl)
      | (apply WL_on0; eq_refl)
      | (apply X_pv; eq_refl; first | exact trivial | omega)
      | (apply X_loadW; eq_refl; (first | assumption | (apply Blk.alloc; assumption) | apply Blk.new | apply Blk.newA | (apply Blk.alloc; first | apply Blk.newA | (apply Blk.alloc; first | assumption | apply Blk.newA))); eq_refl)
      | (apply X_cmpT; eq_refl; eq_refl; omega))
    exact ⟨by rw [hl1], hC4'.trans hC5 fun _ _ h => h⟩
  rw [if_neg hgs, if_neg hgs] at hsy
  rw [if_neg hgs] at hl1
  repeat' (first
      | (apply X_fn; eq_refl; exact hsy; rintro _ w5 ⟨rfl, hC5⟩; have hI5 := hI4.chg hC5 id; have hC5' := hC4'.trans hC5 fun _ _ h => h)
      | (apply WC_seqK; intro K hK)
      | (apply hK; clear hK)
      | (apply WC_block)
      | (apply WC_region)
      | (apply WL_nil)
      | (apply thenQ_normal)
      | (apply WC_skip)
      | (apply WC_if_false; eq_refl)
      | (apply WL_on0; eq_refl)
      | (apply X_pv; eq_refl; first | exact trivial | omega)
      | (apply X_loadW; eq_refl; (first | assumption | (apply Blk.alloc; assumption) | apply Blk.new | apply Blk.newA | (apply Blk.alloc; first | apply Blk.newA | (apply Blk.alloc; first | assumption | apply Blk.newA))); eq_refl)
      | (apply X_cmpF; eq_refl; eq_refl; omega))
  have hkl := hs.lens.2.2.2.2.2.2.2.2.2
  have htx := hs.texts
  refine WC_loop (fun i : Nat => [(1, pt w.heap.size), (14, nu i)]) (fun i W => Chg w W none_ ∧ Blk W w.heap.size 51 (ccells c h) ∧ i ≤ c.comments.length ∧ goCom (c.comments.drop i) i = goCom c.comments 0) (fun i => c.comments.length - i) 0 ⟨rfl, rfl, trivial⟩ ⟨hC5', hI5, Nat.zero_le _, rfl⟩ ?_
  clear hsy hC5' hI5 hC5 w5
  rintro i w5 ⟨hC5, hI5, hi, hgo⟩
  rcases Nat.lt_or_ge i c.comments.length with hlt | hge
  · obtain ⟨p, hp, hpc⟩ := (H.chg hC5).comments.one hlt (v := .string c.comments[i]) rfl
    rw [goCom_step hlt] at hgo
    have htl := htx _ (List.getElem_mem hlt)
    generalize hx : c.comments[i] = s at *
    have e6 : (ccells c h)[0 + 10]? = some (.slice (some p) c.comments.length (h 10).2) := by rw [← hp]; rfl
    repeat' (first
      | (apply WC_seqK; intro K hK)
      | (apply hK; clear hK)
      | (apply WC_block)
      | (apply WC_region)
      | (apply WL_nil)
      | (apply thenQ_normal)
      | (apply WC_skip)
      | (apply WC_if_true; eq_refl)
      | (apply WL_on0; eq_refl)
      | (apply X_pv; eq_refl; first | exact trivial | omega)
      | (apply X_field; eq_refl)
      | (apply X_loadR; eq_refl; (first | assumption | (apply Blk.alloc; assumption) | apply Blk.new | apply Blk.newA | (apply Blk.alloc; first | apply Blk.newA | (apply Blk.alloc; first | assumption | apply Blk.newA))); eq_refl)
      | (apply X_cmpT; eq_refl; eq_refl; omega)
      | (apply X_len; eq_refl))
    refine WC_loop (fun k : Nat => [(1, pt w.heap.size), (14, nu i), (15, nu k)]) (fun k W => W = w5 ∧ k ≤ s.size ∧ ∀ j, j < k → byteAt s j ≠ 10) (fun k => s.size - k) 0 ⟨rfl, rfl, rfl, trivial⟩ ⟨rfl, Nat.zero_le _, fun j hj => absurd hj (Nat.not_lt_zero _)⟩ ?_
    rintro k w6 ⟨rfl, hk, hall10⟩
    rcases Nat.lt_or_ge k s.size with hkl2 | hkg
    · repeat' (first
      | (apply X_loadR; eq_refl; exact hI5; exact e6)
      | (apply X_loadC; eq_refl; exact hpc)
      | (apply X_idxS; eq_refl; eq_refl; omega)
      | (apply WC_seqK; intro K hK)
      | (apply hK; clear hK)
      | (apply WC_block)
      | (apply WC_region)
      | (apply WL_nil)
      | (apply thenQ_normal)
      | (apply thenQ_ret)
      | (apply blockQ_ret)
      | (apply blockQ_normal)
      | (apply WC_ret)
      | (apply WC_skip)
      | (apply WC_if_true; eq_refl)
      | (apply WC_if_false; eq_refl)
      | (apply ret2; eq_refl; eq_refl)
      | (apply WL_on0; eq_refl)
      | (apply X_pv; eq_refl; first | exact trivial | omega)
      | (apply X_field; eq_refl)
      | (apply X_cmpT; eq_refl; eq_refl; omega)
      | (apply X_cmp; eq_refl; eq_refl; all_goals intro _)
      | (apply X_lenS; eq_refl)
      | (apply X_indexP; eq_refl; eq_refl; omega; omega))
      · rw [if_pos (mem_bytesI.2 ⟨k, hkl2, by assumption⟩)] at hgo
        rw [← hgo, if_pos (by omega)] at hl1
        exact ⟨by rw [hl1], hC5⟩
      · exact ⟨k + 1, ⟨rfl, rfl, rfl, trivial⟩, ⟨rfl, hkl2, fun j hj => by
          rcases Nat.lt_or_ge j k with h1 | h1
          · exact hall10 j h1
          · have : j = k := by omega
            subst this
            assumption⟩, by omega⟩
    · rw [if_neg (fun hh => by
        obtain ⟨j, hj, hj2⟩ := mem_bytesI.1 hh
        exact hall10 j (by omega) hj2)] at hgo
      repeat' (first
      | (apply X_loadR; eq_refl; exact hI5; exact e6)
      | (apply X_loadC; eq_refl; exact hpc)
      | (apply WC_seqK; intro K hK)
      | (apply hK; clear hK)
      | (clear hK; apply hK; clear hK)
      | (apply WC_region)
      | (apply WL_nil)
      | (apply thenQ_normal)
      | (apply thenQ_exit)
      | (apply blockQ_hit)
      | (apply blockQ_normal)
      | (apply WC_exit)
      | (apply WC_if_false; eq_refl)
      | (apply WL_on0; eq_refl)
      | (apply X_pv; eq_refl; first | exact trivial | omega)
      | (apply X_field; eq_refl)
      | (apply X_cmpF; eq_refl; eq_refl; omega)
      | (apply X_lenS; eq_refl)
      | (apply X_indexP; eq_refl; eq_refl; omega; omega))
      exact ⟨i + 1, ⟨rfl, rfl, trivial⟩, ⟨hC5, hI5, hlt, hgo⟩, by omega⟩
  · rw [List.drop_eq_nil_of_le hge] at hgo
    rw [← hgo, if_neg (by simp [goCom])] at hl1
    repeat' (first
      | (apply WC_seqK; intro K hK)
      | (apply hK; clear hK)
      | (clear hK; apply hK; clear hK)
      | (apply WC_region)
      | (apply WL_nil)
      | (apply thenQ_normal)
      | (apply thenQ_exit)
      | (apply blockQ_hit)
      | (apply WC_ret)
      | (apply WC_exit)
      | (apply WC_if_false; eq_refl)
      | (apply ret2; eq_refl; eq_refl)
      | (apply WL_on0; eq_refl)
      | (apply X_pv; eq_refl; first | exact trivial | omega)
      | (apply X_field; eq_refl)
      | (apply X_loadR; eq_refl; (first | assumption | (apply Blk.alloc; assumption) | apply Blk.new | apply Blk.newA | (apply Blk.alloc; first | apply Blk.newA | (apply Blk.alloc; first | assumption | apply Blk.newA))); eq_refl)
      | (apply X_cmpF; eq_refl; eq_refl; omega)
      | (apply X_len; eq_refl))
    exact ⟨by rw [hl1], hC5⟩
theorem orderRef_cv {w : World} {c : Circ} {h js : Hd} (H : CirAt w c h js) (hs : c.Sane) (ho : c.Okay) (hf : c.Fits) : CV Try.prog 27 [.agg (ccells c h).toArray] w fun v w' => Chg w w' none_ ∧
    (((lookM c).2 ≠ 0 ∧ v = .tuple #[.slice none 0 0, nu (lookM c).2]) ∨ ((lookM c).2 = 0 ∧ ∃ out u, v = .tuple #[u, nu 0] ∧ All c.ands.length (gateB (tabM c) c) out ∧ w'.ownsRow w.heap.size 3 1 u out.length (out.map nu))) := by
  have hI0 : Blk (w.alloc (.cells (ccells c h).toArray 51)) w.heap.size 51 (ccells c h) := Blk.new w _ _
  have hC := Chg.alloc w (.cells (ccells c h).toArray 51) none_
  have hck := checkRef_cv (H.chg hC) hs ho hf
  refine enter 16 [2, 3] Try.func27 rfl rfl rfl (by decide) rfl ?_
  by_cases he : (lookM c).2 = 0
  · obtain ⟨hle, hsz, hd, hu, _⟩ := lookM_ok he
    obtain ⟨hm0, hm1, hln, hsum⟩ := sizesM_ok hsz
    have hTO : TabOk c (tabM c) := definesM_spec hm0 hd
    have hUA := usesM_spec.1 hu
    have hna : c.ands.length ≤ 16384 := by have := hln (c.ands.length : Int) (by simp [Circ.lens]); omega
    rw [he] at hck
    have htd := fun (W : World) (hW : Chg w W none_) => told_cv (H.chg hW) hTO hUA ⟨hm0, hm1⟩ hna
    repeat' (first
      | (apply X_fn; eq_refl; exact hck; rintro _ w1 ⟨rfl, hC1⟩; have hI1 := hI0.chg hC1 id; have hC1' := hC.trans hC1 fun _ _ h => h)
      | (apply X_fn; eq_refl; exact htd _ hC1'; rintro v2 w2 ⟨hC2, out, hall, hrow⟩)
      | (apply WC_seqK; intro K hK)
      | (apply hK; clear hK)
      | (apply WC_region)
      | (apply WL_nil)
      | (apply thenQ_normal)
      | (apply WC_ret)
      | (apply WC_skip)
      | (apply WC_if_false; eq_refl)
      | (apply ret2; eq_refl; eq_refl)
      | (apply WL_on0; eq_refl)
      | (apply X_pv; eq_refl; first | exact trivial | omega)
      | (apply X_loadW; eq_refl; (first | assumption | (apply Blk.alloc; assumption) | apply Blk.new | apply Blk.newA | (apply Blk.alloc; first | apply Blk.newA | (apply Blk.alloc; first | assumption | apply Blk.newA))); eq_refl)
      | (apply X_cmpF; eq_refl; eq_refl; omega)
      | (apply X_box; eq_refl))
    have hs1 := hC1'.size
    exact ⟨hC1'.trans hC2 fun _ _ h => h, .inr ⟨he, out, v2, rfl, hall, own_mono hrow hs1⟩⟩
  · repeat' (first
      | (apply X_fn; eq_refl; exact hck; rintro _ w1 ⟨rfl, hC1⟩; have hI1 := hI0.chg hC1 id; have hC1' := hC.trans hC1 fun _ _ h => h)
      | (apply WC_seqK; intro K hK)
      | (apply hK; clear hK)
      | (apply WC_region)
      | (apply WL_nil)
      | (apply thenQ_normal)
      | (apply thenQ_ret)
      | (apply WC_ret)
      | (apply WC_if_true; eq_refl)
      | (apply ret2; eq_refl; eq_refl)
      | (apply WL_on0; eq_refl)
      | (apply X_pv; eq_refl; first | exact trivial | omega)
      | (apply X_loadW; eq_refl; (first | assumption | (apply Blk.alloc; assumption) | apply Blk.new | apply Blk.newA | (apply Blk.alloc; first | apply Blk.newA | (apply Blk.alloc; first | assumption | apply Blk.newA))); eq_refl)
      | (apply X_cmpT; eq_refl; eq_refl; omega)
      | (apply X_box; eq_refl))
    exact ⟨hC1', .inl ⟨he, rfl⟩⟩
end SC
end Go.Proofs.Ytkndegjodnciaaa
end
section
/- The order of a right circuit; trestleref07: Next0, Starts0, Values0. -/
set_option linter.unusedVariables false
set_option linter.unusedSimpArgs false
namespace Go.Proofs.Ytkndegjodnciaaa
namespace SC
open Go.Proofs
theorem ownsRow_low {w : World} {base : Nat} {t : TypeId} {sz n : Nat} {v : Value} {xs : List Value} (h : w.ownsRow base t sz v n xs) : w.ownsRow 0 t sz v n xs := ⟨h.1, h.2.imp id fun ⟨g, cap, cur, h1, _, h2⟩ => ⟨g, cap, cur, h1, Nat.zero_le _, h2⟩⟩
/-- A new row of its own, as an entry. -/
theorem own_vec {α : Type} {enc : α → List Value} {sz : Nat} {w w' : World} {t : TypeId} {u : Value} {l : List α} (h : w'.ownsRow w.heap.size t sz u l.length (l.flatMap enc)) (hc : Chg w w' none_) : ∃ A k, u = .slice A l.length k ∧ Mem w' ([.vec enc sz t A k l] ++ [.old w none_]) := by
  obtain ⟨A, k, rfl⟩ := row_form' h
  refine ⟨A, k, rfl, Mem.join (.one (ownsRow_low h)) (.one hc) fun j ⟨E, hE, h1⟩ ⟨F, hF, h2⟩ => ?_⟩
  simp only [List.mem_singleton] at hE hF
  subst hE hF
  have := (World.ownsRow.lt h j h1).1
  have := h2.1
  omega
/-- The order of its gates. -/
noncomputable def ordM (c : Circ) : List Int := by classical exact if h : ∃ out, All c.ands.length (gateB (tabM c) c) out then h.choose else []
theorem ordM_eq {c : Circ} {out : List Int} (h : All c.ands.length (gateB (tabM c) c) out) : ordM c = out := by
  have hex : ∃ out, All c.ands.length (gateB (tabM c) c) out := ⟨out, h⟩
  unfold ordM
  rw [dif_pos hex]
  exact All.only hex.choose_spec h
/-- What Order answers. -/
def OrdR (c : Circ) (v : Value) (N : Mm) : Prop :=
  ((lookM c).2 ≠ 0 ∧ v = .tuple #[.slice none 0 0, nu (lookM c).2] ∧ N = []) ∨ ((lookM c).2 = 0 ∧ ∃ A k, v = .tuple #[.slice A (ordM c).length k, nu 0] ∧ N = [.vec icell 1 3 A k (ordM c)])
theorem OrderG {w : World} {c : Circ} {h js : Hd} (H : CirAt w c h js) (hs : c.Sane) : CVN Try.prog 26 [.agg (ccells c h).toArray] w (OrdR c) := CV.mono (Order_cv H hs) fun v w' ⟨hc, hv⟩ => by
  rcases hv with ⟨h1, rfl⟩ | ⟨h1, out, u, rfl, h2, h3, h4⟩
  · exact ⟨[], .one hc, .inl ⟨h1, rfl, rfl⟩⟩
  · rw [← flat_icell] at h4
    obtain ⟨A, k, rfl, M⟩ := own_vec h4 hc
    rw [← ordM_eq h2] at M ⊢
    exact ⟨_, M, .inr ⟨h1, A, k, rfl, rfl⟩⟩
theorem OrderRefG {w : World} {c : Circ} {h js : Hd} (H : CirAt w c h js) (hs : c.Sane) (ho : c.Okay) (hf : c.Fits) : CVN Try.prog 27 [.agg (ccells c h).toArray] w (OrdR c) := CV.mono (orderRef_cv H hs ho hf) fun v w' ⟨hc, hv⟩ => by
  rcases hv with ⟨h1, rfl⟩ | ⟨h1, out, u, rfl, h2, h4⟩
  · exact ⟨[], .one hc, .inl ⟨h1, rfl, rfl⟩⟩
  · rw [← flat_icell] at h4
    obtain ⟨A, k, rfl, M⟩ := own_vec h4 hc
    rw [← ordM_eq h2] at M ⊢
    exact ⟨_, M, .inr ⟨h1, A, k, rfl, rfl⟩⟩
/-! ### a row that is filled from the left -/
/-- Next, by the values. -/
def nxtM (c : Circ) (v : List Bool) : List Bool := c.latches.map fun x => lv v x.2.1
attribute [local irreducible] WC WL WX WS WO OX Does DoesU Enters CV Pure thenQ blockQ retQ Wants retQC GC GL GS GX RdB thenG blockG retG Rd At gt CVN CVM
set_option maxRecDepth 100000
end SC
end Go.Proofs.Ytkndegjodnciaaa
end
section
/- A right circuit; its values. trestleref07: Starts0, Values0. -/
set_option linter.unusedVariables false
set_option linter.unusedSimpArgs false
namespace Go.Proofs.Ytkndegjodnciaaa
namespace SC
open Go.Proofs
theorem CV.ex {P : Program} {f : FuncId} {args : List Value} {w : World} {R : Value → World → Prop} (h : CV P f args w R) : ∃ v w', R v w' := by
  obtain ⟨e, w', fr, h1, _⟩ := h []
  cases e with
  | returned v => exact ⟨v, w', h1⟩
  | panicked c => exact h1.elim
  | outgrown => exact h1.elim
/-- What is so of a right circuit. -/
structure Right (c : Circ) : Prop where
  tab : TabOk c (tabM c)
  use : UseAll c (tabM c)
  m0 : 0 ≤ c.max
  m1 : c.max ≤ 16384
  lens : ∀ n ∈ c.lens, n ≤ 16384
  sum : sumW c.justice ≤ 16384
  all : All c.ands.length (gateB (tabM c) c) (ordM c)
  ordLen : (ordM c).length = c.ands.length
theorem right_of {w : World} {c : Circ} {h js : Hd} (H : CirAt w c h js) (hs : c.Sane) (he : (lookM c).2 = 0) : Right c := by
  obtain ⟨v, w', _, hv⟩ := CV.ex (Order_cv H hs)
  rcases hv with ⟨h1, _⟩ | ⟨_, out, u, _, h2, h3, _⟩
  · exact absurd he h1
  · obtain ⟨_, g1, g2, g3, _⟩ := lookM_ok he
    obtain ⟨k1, k2, k3, k4⟩ := sizesM_ok g1
    have e1 := ordM_eq h2
    exact ⟨definesM_spec k1 g2, usesM_spec.1 g3, k1, k2, k3, k4, by rw [e1]; exact h2, by rw [e1]; exact h3⟩
def inR (c : Circ) (l : Int) : Prop := 0 ≤ l ∧ l ≤ 2 * c.max + 1
def defR (c : Circ) (l : Int) : Prop := 2 ≤ l ∧ l ≤ 2 * c.max ∧ l % 2 = 0
section
variable {c : Circ} (R : Right c)
include R
theorem Right.nIn : c.inputs.length ≤ 16384 := by have := R.lens c.inputs.length (by simp [Circ.lens]); omega
theorem Right.nLat : c.latches.length ≤ 16384 := by have := R.lens c.latches.length (by simp [Circ.lens]); omega
theorem Right.nAnd : c.ands.length ≤ 16384 := by have := R.lens c.ands.length (by simp [Circ.lens]); omega
theorem Right.nBad : c.bads.length ≤ 16384 := by have := R.lens c.bads.length (by simp [Circ.lens]); omega
theorem Right.nCon : c.constraints.length ≤ 16384 := by have := R.lens c.constraints.length (by simp [Circ.lens]); omega
theorem Right.nFair : c.fairness.length ≤ 16384 := by have := R.lens c.fairness.length (by simp [Circ.lens]); omega
theorem Right.nJust : c.justice.length ≤ 16384 := by have := R.lens c.justice.length (by simp [Circ.lens]); omega
theorem Right.inp {l : Int} (h : l ∈ c.inputs) : defR c l := by
  obtain ⟨j, hj, rfl⟩ := List.mem_iff_getElem.1 h
  have := (R.tab.inp j hj).1
  unfold defBad at this; unfold defR; omega
theorem Right.lat {x : Tri} (h : x ∈ c.latches) : defR c x.1 ∧ inR c x.2.1 ∧ (x.2.2 = 0 ∨ x.2.2 = 1 ∨ x.2.2 = x.1) := by
  obtain ⟨j, hj, rfl⟩ := List.mem_iff_getElem.1 h
  have h1 := (R.tab.lat j hj).1
  have h2 := (R.tab.lat j hj).2.2
  have h3 := R.use.next _ (List.getElem_mem hj)
  unfold defBad at h1; unfold badReset at h2; unfold useOk at h3; unfold defR inR
  omega
theorem Right.gate {x : Tri} (h : x ∈ c.ands) : defR c x.1 ∧ inR c x.2.1 ∧ inR c x.2.2 := by
  obtain ⟨j, hj, rfl⟩ := List.mem_iff_getElem.1 h
  have h1 := (R.tab.gat j hj).1
  have h3 := R.use.ands _ (List.getElem_mem hj)
  unfold defBad at h1; unfold useOk at h3; unfold defR inR
  omega
theorem Right.con {l : Int} (h : l ∈ c.constraints) : inR c l := ⟨(R.use.constraints l h).1, (R.use.constraints l h).2.1⟩
theorem Right.bad {l : Int} (h : l ∈ c.bads) : inR c l := ⟨(R.use.bads l h).1, (R.use.bads l h).2.1⟩
theorem Right.fair {l : Int} (h : l ∈ c.fairness) : inR c l := ⟨(R.use.fairness l h).1, (R.use.fairness l h).2.1⟩
theorem Right.just {ls : List Int} {l : Int} (h : ls ∈ c.justice) (h2 : l ∈ ls) : inR c l := ⟨(R.use.justice ls h l h2).1, (R.use.justice ls h l h2).2.1⟩
theorem Right.ord {i : Int} (h : i ∈ ordM c) : 0 ≤ i ∧ i < c.ands.length := R.all.told.all i h
end
theorem inR.has {c : Circ} {l : Int} {v : List Bool} (h : inR c l) (hm : c.max ≤ 16384) (hv : v.length = (c.max + 1).toNat) : hasL v l := by unfold inR at h; unfold hasL; omega
theorem defR.in {c : Circ} {l : Int} (h : defR c l) : inR c l := by unfold defR at h; unfold inR; omega
/-! ### the values -/
def vIn (c : Circ) (r : List Bool) (i : Nat) : List Bool := (List.range i).foldl (fun v (k : Nat) => v.set (gt c.inputs (k : Int) / 2).toNat (gt r (k : Int))) (List.replicate (c.max + 1).toNat false)
def vLt (c : Circ) (s v : List Bool) (i : Nat) : List Bool := (List.range i).foldl (fun v (k : Nat) => v.set ((gt c.latches (k : Int)).1 / 2).toNat (gt s (k : Int))) v
def vAn (c : Circ) (ord : List Int) (v : List Bool) (i : Nat) : List Bool := (List.range i).foldl (fun v (k : Nat) => v.set ((gt c.ands (gt ord (k : Int))).1 / 2).toNat (lv v (gt c.ands (gt ord (k : Int))).2.1 && lv v (gt c.ands (gt ord (k : Int))).2.2)) v
noncomputable def valM (c : Circ) (s r : List Bool) : List Bool := vAn c (ordM c) (vLt c s (vIn c r c.inputs.length) c.latches.length) (ordM c).length
attribute [local irreducible] WC WL WX WS WO OX Does DoesU Enters CV Pure thenQ blockQ retQ Wants retQC GC GL GS GX RdB thenG blockG retG Rd At gt CVN CVM
set_option maxRecDepth 100000
end SC
end Go.Proofs.Ytkndegjodnciaaa
end
section
/- trestleref07: Values0. -/
set_option linter.unusedVariables false
set_option linter.unusedSimpArgs false
namespace Go.Proofs.Ytkndegjodnciaaa
namespace SC
open Go.Proofs
attribute [local irreducible] WC WL WX WS WO OX Does DoesU Enters CV Pure thenQ blockQ retQ Wants retQC GC GL GS GX RdB thenG blockG retG Rd At gt CVN CVM
set_option maxRecDepth 100000
end SC
end Go.Proofs.Ytkndegjodnciaaa
end
section
/- trestleref07: looked, Values, Next, Holds, Starts. -/
set_option linter.unusedVariables false
set_option linter.unusedSimpArgs false
namespace Go.Proofs.Ytkndegjodnciaaa
namespace SC
open Go.Proofs
/-- A circuit that can be read, and what is so of any. -/
structure CirIn (w : World) (c : Circ) (h js : Hd) : Prop where
  at_ : CirAt w c h js
  sane : c.Sane
  okay : c.Okay
  fits : c.Fits
theorem CirIn.chg {w w' : World} {c : Circ} {h js : Hd} (H : CirIn w c h js) (hc : Chg w w' none_) : CirIn w' c h js := ⟨H.at_.chg hc, H.sane, H.okay, H.fits⟩
theorem In.old {Γ : Mm} {w w0 : World} (h : In Γ (.old w0 none_)) (M : Mem w Γ) : Chg w0 w none_ := h.ok M
attribute [local irreducible] WC WL WX WS WO OX Does DoesU Enters CV Pure thenQ blockQ retQ Wants retQC GC GL GS GX RdB thenG blockG retG Rd At gt CVN CVM
set_option maxRecDepth 100000
section
variable {w : World} {c : Circ} {h js : Hd} {S T : Option Addr} {k2 k3 : Nat} {s r : List Bool} (H : CirIn w c h js) (hS : RowA w booc 1 S s) (hT : RowA w booc 1 T r)
include H hS hT
end
end SC
end Go.Proofs.Ytkndegjodnciaaa
end
section
/- sim: is, values, next, holds. -/
set_option linter.unusedVariables false
set_option linter.unusedSimpArgs false
namespace Go.Proofs.Ytkndegjodnciaaa
namespace SC
open Go.Proofs
theorem In.box {Γ : Mm} {w : World} {b : Nat} {t : TypeId} {cs : List Value} (h : In Γ (.box b t cs)) (M : Mem w Γ) : Blk w b t cs := h.ok M
theorem In.row {Γ : Mm} {w : World} {α : Type} {enc : α → List Value} {sz : Nat} [H : Enc enc sz] {t : TypeId} {A : Option Addr} {c : Nat} {l : List α} (h : In Γ (.vec enc sz t A c l)) (M : Mem w Γ) : RowA w enc sz A l := (Rd.own h H).at M
instance : Fn Try.prog 143 := ⟨fun args w => Try.call143 args w⟩
instance : Fn Try.prog 146 := ⟨fun args w => Try.call146 args w⟩
instance : Fn Try.prog 150 := ⟨fun args w => Try.call150 args w⟩
attribute [local irreducible] WC WL WX WS WO OX Does DoesU Enters CV Pure thenQ blockQ retQ Wants retQC GC GL GS GX RdB thenG blockG retG Rd At gt CVN CVM
set_option maxRecDepth 100000
/-! ### slices.ContainsFunc at numbers -/
end SC
end Go.Proofs.Ytkndegjodnciaaa
end
section
/- trestlebook: SameBools, SpoilBools; trestlelaw07: lent, lit. -/
set_option linter.unusedVariables false
set_option linter.unusedSimpArgs false
namespace Go.Proofs.Ytkndegjodnciaaa
namespace SC
open Go.Proofs
attribute [local irreducible] WC WL WX WS WO OX Does DoesU Enters CV Pure thenQ blockQ retQ Wants retQC GC GL GS GX RdB thenG blockG retG Rd At gt CVN CVM
set_option maxRecDepth 100000
end SC
end Go.Proofs.Ytkndegjodnciaaa
end
section
/- sim: ready, step, Values, Next, Holds, Starts. -/
set_option linter.unusedVariables false
set_option linter.unusedSimpArgs false
namespace Go.Proofs.Ytkndegjodnciaaa
namespace SC
open Go.Proofs
attribute [local irreducible] WC WL WX WS WO OX Does DoesU Enters CV Pure thenQ blockQ retQ Wants retQC GC GL GS GX RdB thenG blockG retG Rd At gt CVN CVM
set_option maxRecDepth 100000
section
variable {w : World} {c : Circ} {h js : Hd} {S T : Option Addr} {k2 k3 : Nat} {s r : List Bool} (H : CirIn w c h js) (hS : RowA w booc 1 S s) (hT : RowA w booc 1 T r)
include H hS hT
end
end SC
end Go.Proofs.Ytkndegjodnciaaa
end
section
/- What is so in a step. trestleref07: moment. -/
set_option linter.unusedVariables false
set_option linter.unusedSimpArgs false
namespace Go.Proofs.Ytkndegjodnciaaa
namespace SC
open Go.Proofs
theorem sumL_take_le (l : List (List Int)) (i : Nat) : sumL (l.take i) ≤ sumL l := by
  unfold sumL
  induction l generalizing i with
  | nil => simp
  | cons a r ih =>
    cases i with
    | zero => simp
    | succ i => simp only [List.take_succ_cons, List.map_cons, List.sum_cons]; have := ih i; omega
theorem Right.sumJ {c : Circ} (R : Right c) (hf : c.Fits) : sumL c.justice ≤ 16384 := by
  have h1 := sumL_le (l := c.justice) (M := 17592186044416) fun x hx => by have := hf.each x hx; omega
  have h2 := R.nJust
  have h3 := R.sum
  unfold sumW at h3
  have h4 : c.justice.length * 17592186044416 ≤ 16384 * 17592186044416 := Nat.mul_le_mul_right _ h2
  rw [wrap64_id (by omega) (by omega)] at h3
  omega
theorem each_sum {l : List (List Int)} {i : Nat} (h : i < l.length) : sumL (l.take i) + l[i].length ≤ sumL l := by
  have := sumL_take_le l (i + 1)
  rw [List.take_succ_eq_append_getElem h] at this
  unfold sumL at *
  rw [List.map_append, List.sum_append] at this
  simpa using this
attribute [local irreducible] WC WL WX WS WO OX Does DoesU Enters CV Pure thenQ blockQ retQ Wants retQC GC GL GS GX RdB thenG blockG retG Rd At gt CVN CVM
set_option maxRecDepth 100000
end SC
end Go.Proofs.Ytkndegjodnciaaa
end
section
/- sim: moment. -/
set_option linter.unusedVariables false
set_option linter.unusedSimpArgs false
namespace Go.Proofs.Ytkndegjodnciaaa
namespace SC
open Go.Proofs
attribute [local irreducible] WC WL WX WS WO OX Does DoesU Enters CV Pure thenQ blockQ retQ Wants retQC GC GL GS GX RdB thenG blockG retG Rd At gt CVN CVM
set_option maxRecDepth 100000
end SC
end Go.Proofs.Ytkndegjodnciaaa
end
section
/- Traces and runs. trestleref07: Fits, Run0, Run; sim: Run. -/
set_option linter.unusedVariables false
set_option linter.unusedSimpArgs false
namespace Go.Proofs.Ytkndegjodnciaaa
namespace SC
open Go.Proofs
abbrev Hdl := Option Addr × Nat
/-- A trace, each row with its handle. -/
structure Trc where
  init : List Bool
  rows : List (Hdl × List Bool)
  loop : Int
/-- The states of a run, and what is so in its steps. -/
noncomputable def stM (c : Circ) (t : Trc) : Nat → List Bool
  | 0 => t.init
  | k + 1 => nxtM c (valM c (stM c t k) (gt t.rows (k : Int)).2)
attribute [local irreducible] WC WL WX WS WO OX Does DoesU Enters CV Pure thenQ blockQ retQ Wants retQC GC GL GS GX RdB thenG blockG retG Rd At gt CVN CVM
set_option maxRecDepth 100000
end SC
end Go.Proofs.Ytkndegjodnciaaa
end
section
/- trestleref07: Run; sim: Run. -/
set_option linter.unusedVariables false
set_option linter.unusedSimpArgs false
namespace Go.Proofs.Ytkndegjodnciaaa
namespace SC
open Go.Proofs
attribute [local irreducible] WC WL WX WS WO OX Does DoesU Enters CV Pure thenQ blockQ retQ Wants retQC GC GL GS GX RdB thenG blockG retG Rd At gt CVN CVM
set_option maxRecDepth 100000
end SC
end Go.Proofs.Ytkndegjodnciaaa
end
section
/- trestlelaw07: works. -/
set_option linter.unusedVariables false
set_option linter.unusedSimpArgs false
namespace Go.Proofs.Ytkndegjodnciaaa
namespace SC
open Go.Proofs
attribute [local irreducible] WC WL WX WS WO OX Does DoesU Enters CV Pure thenQ blockQ retQ Wants retQC GC GL GS GX RdB thenG blockG retG Rd At CVN CVM
set_option maxRecDepth 100000
end SC
end Go.Proofs.Ytkndegjodnciaaa
end
section
/- ShapeChecks: the walk. -/
set_option linter.unusedVariables false
set_option linter.unusedSimpArgs false
namespace Go.Proofs.Ytkndegjodnciaaa
namespace SC
open Go.Proofs
theorem Circ.Fits.lens1 {c : Circ} (hf : c.Fits) : ∀ n ∈ c.lens, n + 1 ≤ 9223372036854775807 := by
  intro n hn
  have h1 := hf.inputs
  have h2 := hf.latches
  have h3 := hf.outputs
  have h4 := hf.bads
  have h5 := hf.constraints
  have h6 := hf.justice
  have h7 := hf.fairness
  have h8 := hf.ands
  have h9 := hf.symbols
  have h10 := hf.comments
  simp only [Circ.lens, List.mem_cons, List.not_mem_nil, or_false] at hn
  rcases hn with rfl | rfl | rfl | rfl | rfl | rfl | rfl | rfl | rfl | rfl <;> omega
attribute [local irreducible] WC WL WX WS WO OX Does DoesU Enters CV Pure thenQ blockQ retQ Wants retQC
set_option maxRecDepth 100000
end SC
end Go.Proofs.Ytkndegjodnciaaa
end
section
/- trestlelaw07: SimStarts, SimSteps: the walks. -/
set_option linter.unusedVariables false
set_option linter.unusedSimpArgs false
namespace Go.Proofs.Ytkndegjodnciaaa
namespace SC
open Go.Proofs
/-- A lent circuit, as an entry. -/
def lentX (base : Nat) (c : Circ) (h js : Hd) : EntX where
  own := fun k => ∃ i, (lentRow c h js i).v.ownBlock = some k
  ok := fun w => CirLent w base c h js
  lt := fun w H k ⟨i, hi⟩ => (World.ownsRow.lt (H i) k hi).2
  keep := fun w w' S H hc hn => fun i => own_chg (H i) hc fun k hk => hn k ⟨i, hk⟩
def LendR (c : Circ) (v : Value) (N : Mm) : Prop := ∃ base h' js', v = .agg (ccells c h').toArray ∧ N = [.any (lentX base c h' js')]
theorem LendG {w : World} {c : Circ} {h js : Hd} (H : CirAt w c h js) (hf : c.Fits1) (hn : Nils h js) : CVN Try.prog 23 [.agg (ccells c h).toArray] w (LendR c) := CV.mono (lendCircuit_cv H hf hn) fun v w' ⟨h', js', e1, e2, hc⟩ =>
  ⟨[.any (lentX w.heap.size c h' js')], Mem.join (.one e2) (.one hc) fun k ⟨E, hE, h1⟩ ⟨F, hF, h2⟩ => by
    simp only [List.mem_singleton] at hE hF
    subst hE hF
    obtain ⟨i, hi⟩ := h1
    have := (World.ownsRow.lt (e2 i) k hi).1
    have := h2.1
    omega, w.heap.size, h', js', e1, rfl⟩
/-- What comes in: a circuit, with its reach. -/
structure CirGot (w : World) (c : Circ) (h js : Hd) : Prop extends CirIn w c h js where
  fits1 : c.Fits1
  nils : Nils h js
theorem CirGot.chg {w w' : World} {c : Circ} {h js : Hd} (H : CirGot w c h js) (hc : Chg w w' none_) : CirGot w' c h js := ⟨H.toCirIn.chg hc, H.fits1, H.nils⟩
theorem In.lent {Γ : Mm} {w w0 : World} {base : Nat} {c : Circ} {h js h' js' : Hd} (H : CirIn w0 c h js) (hi : In Γ (.any (lentX base c h' js'))) (M : Mem w Γ) : CirIn w c h' js' := ⟨CirLent.at (hi.ok M), H.sane, H.okay, H.fits⟩
theorem KeptG {Γ : Mm} {w0 w : World} {base : Nat} {c : Circ} {h js h' js' : Hd} (H : CirGot w0 c h js) (hi : In Γ (.any (lentX base c h' js'))) (ho : In Γ (.old w0 none_)) (M : Mem w Γ) : CVN Try.prog 30 [.agg (ccells c h').toArray, .agg (ccells c h).toArray] w fun v N => N = [] ∧ v = .bool true :=
  CVN.of (keptCircuit_cv (hi.ok M) (H.at_.chg (ho.old M)) H.okay H.fits1.lens1) fun v w' h => ⟨h.2, h.1⟩
attribute [local irreducible] WC WL WX WS WO OX Does DoesU Enters CV Pure thenQ blockQ retQ Wants retQC GC GL GS GX RdB thenG blockG retG Rd At gt CVN CVM
set_option maxRecDepth 100000
end SC
end Go.Proofs.Ytkndegjodnciaaa
end
section
/- trestlelaw07: SimSteps: the walk. -/
set_option linter.unusedVariables false
set_option linter.unusedSimpArgs false
namespace Go.Proofs.Ytkndegjodnciaaa
namespace SC
open Go.Proofs
theorem G_callM2 {P : Program} {n : Nat} {all : List Oper} {K : Env → Mm → Prop} {m : Md} {d : Option Tmp} {e : Env} {Γ Γ' : Mm} {ty : TypeId} {f : FuncId} [F : Go.Proofs.Ytkndegjodnciaaa.SC.Fn P f] {args : Array Operand} {ats : Array TypeId} {vs : List Value} {C : Mm} {R : Value → Mm → Prop} (hm : wrOk all m = true) (h : evs e args.toList = some vs) (hc : ∀ w, Mem w C → CVM P f vs w C R) (hC : Rems Γ C Γ') (hr : ∀ v N, R v N → GN P n all K m (push d v e) (N ++ Γ')) :
    GX P n all K m d (.call { callee := .value (.func f), args := args, argTypes := ats }) ty e Γ :=
  G_callM hm h hC (fun w M => hc w (Mem.takes hC M).left) hr
attribute [local irreducible] WC WL WX WS WO OX Does DoesU Enters CV Pure thenQ blockQ retQ Wants retQC GC GL GS GX RdB thenG blockG retG Rd At gt CVN CVM
set_option maxRecDepth 100000
end SC
end Go.Proofs.Ytkndegjodnciaaa
end
section
/- Lists of bools that come in. -/
set_option linter.unusedVariables false
set_option linter.unusedSimpArgs false
namespace Go.Proofs.Ytkndegjodnciaaa
namespace SC
open Go.Proofs
set_option maxRecDepth 100000
section
variable {H : Type} {enc : TypeId × Value → H} {W : World} {base : Nat} {spare : Nat → Bool} {held : Bool}
end
end SC
end Go.Proofs.Ytkndegjodnciaaa
end
section
/- What is so of the values of a right circuit; trestlelaw07: lit. -/
set_option linter.unusedVariables false
set_option linter.unusedSimpArgs false
namespace Go.Proofs.Ytkndegjodnciaaa
namespace SC
open Go.Proofs
/-! ### a list that is written from the left -/
section
variable {g : Nat → Nat} {h : List Bool → Nat → Bool} {v : List Bool}
end
theorem nodup_ix {l : List Int} (h : l.Nodup) {a b : Nat} (ha : a < l.length) (hb : b < l.length) (e : l[a] = l[b]) : a = b := by
  have hp := List.pairwise_iff_getElem.1 h
  rcases Nat.lt_trichotomy a b with h1 | h1 | h1
  · exact absurd e (hp a b ha hb h1)
  · exact h1
  · exact absurd e.symm (hp b a hb ha h1)
attribute [local irreducible] WC WL WX WS WO OX Does DoesU Enters CV Pure thenQ blockQ retQ Wants retQC GC GL GS GX RdB thenG blockG retG Rd At gt CVN CVM
set_option maxRecDepth 100000
end SC
end Go.Proofs.Ytkndegjodnciaaa
end
section
/- trestlelaw07: SimGates: the walk. -/
set_option linter.unusedVariables false
set_option linter.unusedSimpArgs false
namespace Go.Proofs.Ytkndegjodnciaaa
namespace SC
open Go.Proofs
attribute [local irreducible] WC WL WX WS WO OX Does DoesU Enters CV Pure thenQ blockQ retQ Wants retQC GC GL GS GX RdB thenG blockG retG Rd At gt CVN CVM
set_option maxRecDepth 100000
end SC
end Go.Proofs.Ytkndegjodnciaaa
end
section
/- trestlebook: SameInts, SpoilInts, SameTrace; trestlelaw07: same. -/
set_option linter.unusedVariables false
set_option linter.unusedSimpArgs false
namespace Go.Proofs.Ytkndegjodnciaaa
namespace SC
open Go.Proofs Go.Maps
set_option maxRecDepth 100000
theorem sameIntsG {w : World} {A B : Option Addr} {c d : Nat} {l : List Int} (R : RowA w icell 1 A l) (R' : RowA w icell 1 B l) (hl : l.length ≤ 9223372036854775807) : CVN Try.prog 28 [.slice A l.length c, .slice B l.length d] w fun v N => N = [] ∧ v = .bool true :=
  CVN.of (sameInts_cv R R' hl hl) fun v w' h => ⟨h.2, by rw [h.1, decide_eq_true rfl]⟩
theorem spoilIntsG {w : World} {A : Option Addr} {c : Nat} {l : List Int} {mark : Int} (M : Mem w [.vec icell 1 3 A c l]) : CVM Try.prog 29 [.slice A l.length c, nu mark] w [.vec icell 1 3 A c l] fun v N => N = [] :=
  CV.mono (spoil_cv (mark := mark) ((In.here (E := .vec icell 1 3 A c l) (Γ := [])).ok M)) fun v w' h => ⟨[], .one (h.mono fun k hk => owns_cons.2 (.inl hk)), rfl⟩
/-! ### spots -/
/-! ### traces -/
/-! ### the moments of a run, in memory -/
theorem vec_len {α : Type} {enc : α → List Value} {sz : Nat} {w : World} {t : TypeId} {A : Option Addr} {c : Nat} {l : List α} (h : w.ownsRow 0 t sz (.slice A l.length c) l.length (l.flatMap enc)) : l.length ≤ 9223372036854775807 := by
  rcases h.2 with ⟨_, h2⟩ | ⟨g, cap, cur, _, _, _, hc, hm, _⟩
  · omega
  · simp only [maxLen] at hm
    omega
attribute [local irreducible] WC WL WX WS WO OX Does DoesU Enters CV Pure thenQ blockQ retQ Wants retQC GC GL GS GX RdB thenG blockG retG Rd At gt CVN CVM
end SC
end Go.Proofs.Ytkndegjodnciaaa
end
section
/- trestlebook: CopyTrace; runs of traces that read the same. -/
set_option linter.unusedVariables false
set_option linter.unusedSimpArgs false
namespace Go.Proofs.Ytkndegjodnciaaa
namespace SC
open Go.Proofs
attribute [local irreducible] WC WL WX WS WO OX Does DoesU Enters CV Pure thenQ blockQ retQ Wants retQC GC GL GS GX RdB thenG blockG retG Rd At gt CVN CVM
set_option maxRecDepth 100000
end SC
end Go.Proofs.Ytkndegjodnciaaa
end
section
/- Entries bound together; what runs answer. -/
set_option linter.unusedVariables false
set_option linter.unusedSimpArgs false
namespace Go.Proofs.Ytkndegjodnciaaa
namespace SC
open Go.Proofs
/-- Entries as one. -/
def bun (Δ : Mm) : EntX where
  own := owns Δ
  ok := fun w => Mem w Δ
  lt := fun w M k hk => M.lt hk
  keep := fun w w' S M hc hn => M.chg hc hn
theorem In.bun {Γ Δ : Mm} {w : World} (h : In Γ (.any (bun Δ))) (M : Mem w Γ) : Mem w Δ := h.ok M
theorem Rd.bun {α : Type} {Γ Δ : Mm} {enc : α → List Value} {sz : Nat} {A : Option Addr} {l : List α} (h : In Γ (.any (bun Δ))) (h0 : Rd Δ enc sz A l) : Rd Γ enc sz A l := fun w M => h0.at (h.bun M)
theorem CVN.bun {P : Program} {f : FuncId} {args : List Value} {w : World} {R : Value → Mm → Prop} (h : CVN P f args w R) : CVN P f args w fun v N => ∃ N', R v N' ∧ N = [.any (bun N')] :=
  CV.mono h fun v w' ⟨N, M, hR⟩ => ⟨[.any (SC.bun N)], Mem.join (.one M.left) M.right fun k ⟨E, hE, h1⟩ h2 => by
    simp only [List.mem_singleton] at hE
    subst hE
    exact M.sep k h1 h2, N, hR, rfl⟩
theorem Wk.left {Γ Δ : Mm} : Wk (Δ ++ Γ) Δ := ⟨fun w M => M.left, fun k hk => owns_append.2 (.inl hk)⟩
end SC
end Go.Proofs.Ytkndegjodnciaaa
end
section
/- trestlelaw07: SimRuns: the walk. -/
set_option linter.unusedVariables false
set_option linter.unusedSimpArgs false
namespace Go.Proofs.Ytkndegjodnciaaa
namespace SC
open Go.Proofs
attribute [local irreducible] WC WL WX WS WO OX Does DoesU Enters CV Pure thenQ blockQ retQ Wants retQC GC GL GS GX RdB thenG blockG retG Rd At gt CVN CVM
attribute [local irreducible] fam bun
set_option maxRecDepth 100000
end SC
end Go.Proofs.Ytkndegjodnciaaa
end
section
/- Traces that come in. -/
set_option linter.unusedVariables false
set_option linter.unusedSimpArgs false
namespace Go.Proofs.Ytkndegjodnciaaa
namespace SC
open Go.Proofs
set_option maxRecDepth 100000
section
variable {H : Type} {enc : TypeId × Value → H} {W : World} {base : Nat} {spare : Nat → Bool} {held : Bool}
end
end SC
end Go.Proofs.Ytkndegjodnciaaa
end
section
/- A back part of a slice; numbers without a sign; a run from one of its states. -/
set_option linter.unusedVariables false
set_option linter.unusedSimpArgs false
namespace Go.Proofs.Ytkndegjodnciaaa
namespace SC
open Go.Proofs
set_option maxRecDepth 100000
section
variable {n : Nat} {all : List Oper} {K : Env → Mm → Prop} {m : Md} {e : Env} {Γ : Mm} {d : Option Tmp} {ty t t' t0 : TypeId} {x y : Operand} {td : TypeDesc} {sz sz1 by_ by1 : Nat} {zv z1 : Value} {ag ag1 : Bool}
end
theorem RowA.drop {α : Type} {w : World} {enc : α → List Value} {sz : Nat} {A : Option Addr} {l : List α} (h : RowA w enc sz A l) (i : Nat) : RowA w enc sz (A.map (·.add (i * sz))) (l.drop i) := fun k hk => by
  rw [List.length_drop] at hk
  obtain ⟨p, rfl, hp⟩ := h (i + k) (by omega)
  refine ⟨p.add (i * sz), rfl, fun j u hj => ?_⟩
  rw [List.getElem_drop] at hj
  have := hp j u hj
  rw [show ((i + k : Nat) : Int).toNat = i + k by omega, Nat.add_mul] at this
  rw [show (k : Int).toNat = k by omega, Addr.add_add p]
  exact this
/-- The trace from a state on. -/
noncomputable def tail (c : Circ) (t : Trc) (i : Nat) : Trc := ⟨stM c t i, t.rows.drop i, -1⟩
end SC
end Go.Proofs.Ytkndegjodnciaaa
end
section
/- trestleref03: Lit, Lits, Binary. -/
set_option linter.unusedVariables false
set_option linter.unusedSimpArgs false
namespace Go.Proofs.Ytkndegjodnciaaa
namespace SC
open Go.Proofs
theorem litM_gt (to : List Int) (l : Int) : litM to l = gt to (l / 2) + l % 2 := rfl
theorem gt_L (to : List Int) (v : Int) : gt to v = L to v := rfl
/-- The binary order. -/
structure BinOk (c : Circ) : Prop where
  inp : ∀ i : Nat, i < c.inputs.length → gt c.inputs (i : Int) = 2 * i + 2
  lat : ∀ i : Nat, i < c.latches.length → (gt c.latches (i : Int)).1 = 2 * (c.inputs.length + i) + 2
  and : ∀ i : Nat, i < c.ands.length → (gt c.ands (i : Int)).1 = 2 * (c.inputs.length + c.latches.length + i) + 2 ∧ (gt c.ands (i : Int)).2.1 < (gt c.ands (i : Int)).1 ∧ (gt c.ands (i : Int)).2.2 ≤ (gt c.ands (i : Int)).2.1
  max : (c.inputs.length : Int) + c.latches.length + c.ands.length = c.max
theorem xor_even {a b : Int} (h : a % 2 = 0) (hb : 0 ≤ b) (hb1 : b ≤ 1) : xorb a b = a + b := by unfold xorb; split <;> omega
theorem G_xor01 {P : Program} {n : Nat} {all : List Oper} {K : Env → Mm → Prop} {m : Md} {e : Env} {Γ : Mm} {d : Option Tmp} {ty t t' : TypeId} {x y : Operand} {a b : Int} (h : ev e x = some (.int .i64 a)) (h1 : ev e y = some (.int .i64 b)) (h2 : a % 2 = 0) (hb : 0 ≤ b) (hb1 : b ≤ 1) (h3 : 0 ≤ a) (h4 : a ≤ 9223372036854775807) (hr : GN P n all K m (push d (nu (a + b)) e) Γ) : GX P n all K m d (.binOp .xor t x y t') ty e Γ :=
  GX_pure (by have := p_xor01 (P := P) (ty := ty) (t := t) (t' := t') h h1 hb hb1 (by omega) h4; rw [xor_even h2 hb hb1] at this; exact this) hr
attribute [local irreducible] WC WL WX WS WO OX Does DoesU Enters CV Pure thenQ blockQ retQ Wants retQC GC GL GS GX RdB thenG blockG retG Rd At gt CVN CVM
set_option maxRecDepth 100000
theorem Lit3_cv {w : World} {A : Option Addr} {k : Nat} {to : List Int} {l : Int} (hA : RowA w icell 1 A to) (hO : MapOk to) (hl : rg to.length (l / 2)) (hm : l ≤ 9223372036854775807) : CVN Try.prog 104 [.slice A to.length k, nu l] w fun v N => N = [] ∧ v = nu (litM to l) := by
  obtain ⟨g1, g2, g3⟩ := hO.all _ hl
  unfold rg at hl
  rw [← gt_L] at g1 g2 g3
  have e1 : litM to l = gt to (l / 2) + l % 2 := litM_gt to l
  have h0 : 0 ≤ l := by omega
  rw [e1]
  clear e1
  generalize hv : gt to (l / 2) = v at *
  refine CVN.enter 13 [4] Try.func104 rfl rfl rfl (by decide) rfl ?_
  repeat' (first
      | (apply G_rd; eq_refl; (apply Rd.old; (repeat first | exact In.here | apply In.there | apply In.skip); assumption); (case ih => infer_instance); omega; omega; (rw [hv]; eq_refl))
      | (apply G_xor01; eq_refl; eq_refl; omega; omega; omega; omega; omega)
      | (apply GC_seqK; intro K hK)
      | (apply hK; clear hK K)
      | (apply GC_region)
      | (apply GL_nil)
      | (apply thenG_normal)
      | (apply GC_ret)
      | (apply retG1; eq_refl)
      | (apply GL_on; eq_refl; eq_refl)
      | (apply G_pv; eq_refl; first | exact trivial | omega)
      | (apply G_ix; eq_refl; eq_refl; (first | (apply Rd.own; (repeat first | exact In.here | apply In.there | apply In.skip); infer_instance) | (apply Rd.old; (repeat first | exact In.here | apply In.there | apply In.skip); assumption) | (apply Rd.oldR; (repeat first | exact In.here | apply In.there | apply In.skip); assumption) | exact Rd.nil | assumption); (first | eq_refl | omega); omega; omega))
  exact ⟨[], (by repeat first | exact Wk.nil | exact Wk.refl | (apply Wk.cons; (focus ((repeat first | exact Rem.here | apply Rem.there | apply Rem.skip); done))) | apply Wk.nilv | apply Wk.last | apply Wk.drop), rfl, rfl⟩
theorem Lits3_cv {w : World} {A B : Option Addr} {k k2 : Nat} {to ls : List Int} (hA : RowA w icell 1 A to) (hB : RowA w icell 1 B ls) (hO : MapOk to) (hl : ∀ l ∈ ls, rg to.length (l / 2) ∧ l ≤ 9223372036854775807) (hn : ls.length ≤ 100000) :
    CVN Try.prog 105 [.slice A to.length k, .slice B ls.length k2] w fun v N => ∃ A' k', v = .slice A' (ls.map (litM to)).length k' ∧ N = [.vec icell 1 3 A' k' (ls.map (litM to))] := by
  refine CVN.enter 23 [4] Try.func105 rfl rfl rfl (by decide) rfl ?_
  repeat' (first
      | (apply GC_seqK; intro K hK)
      | (apply hK; clear hK K)
      | (apply GC_block)
      | (apply GC_region)
      | (apply GL_nil)
      | (apply thenG_normal)
      | (apply GL_on; eq_refl; eq_refl)
      | (apply G_pv; eq_refl; first | exact trivial | omega))
  refine GC_loopK [0, 1] (fun s : Nat × List Int × Option Addr × Nat => [(5, .slice s.2.2.1 s.2.1.length s.2.2.2), (6, nu s.1)]) (fun s => [.vec icell 1 3 s.2.2.1 s.2.2.2 s.2.1, .old w none_]) (fun s => s.1 ≤ ls.length ∧ s.2.1 = (ls.take s.1).map (litM to)) (fun s => ls.length - s.1) (0, [], none, 0) (by repeat first | exact Pick.nil | (apply Pick.cons; eq_refl)) (by repeat first | exact trivial | refine ⟨rfl, ?_⟩) (by repeat first | exact Wk.nil | exact Wk.refl | (apply Wk.cons; (focus ((repeat first | exact Rem.here | apply Rem.there | apply Rem.skip); done))) | apply Wk.nilv | apply Wk.last | apply Wk.drop) ⟨Nat.zero_le _, by simp⟩ ?_
  rintro ⟨i, o, C, kC⟩ ⟨hi, ho⟩
  dsimp only at hi ho ⊢
  have hol : o.length = i := by have := congrArg List.length ho; simp at this; omega
  rcases Nat.lt_or_ge i ls.length with hlt | hge
  · have hg := hl _ (gt_mem (l := ls) (i := (i : Int)) (by omega) (by omega))
    have hlit : ∀ Γ, In Γ (.old w none_) → ∀ w', Mem w' Γ → CVN Try.prog 104 [.slice A to.length k, nu (gt ls (i : Int))] w' fun v N => N = [] ∧ v = nu (litM to (gt ls (i : Int))) := fun Γ hi w' M => Lit3_cv (hA.chg (hi.old M)) hO hg.1 hg.2
    repeat' (first
      | (apply G_call; eq_refl; eq_refl; (apply hlit; (repeat first | exact In.here | apply In.there | apply In.skip)); rintro _ _ ⟨rfl, rfl⟩)
      | (apply GC_seqK; intro K hK)
      | (apply hK; clear hK K)
      | (apply GC_block)
      | (apply GC_region)
      | (apply GL_nil)
      | (apply thenG_normal)
      | (apply blockG_normal)
      | (apply GC_skip)
      | (apply GC_if_true; eq_refl)
      | (apply GL_on; eq_refl; eq_refl)
      | (apply G_pv; eq_refl; first | exact trivial | omega)
      | (apply G_rd; eq_refl; (first | (apply Rd.own; (repeat first | exact In.here | apply In.there | apply In.skip); infer_instance) | (apply Rd.old; (repeat first | exact In.here | apply In.there | apply In.skip); assumption) | (apply Rd.oldR; (repeat first | exact In.here | apply In.there | apply In.skip); assumption) | exact Rd.nil | assumption); (case ih => infer_instance); omega; omega; eq_refl)
      | (apply G_cmpT; eq_refl; eq_refl; omega)
      | (apply G_len; eq_refl)
      | (apply G_ix; eq_refl; eq_refl; (first | (apply Rd.own; (repeat first | exact In.here | apply In.there | apply In.skip); infer_instance) | (apply Rd.old; (repeat first | exact In.here | apply In.there | apply In.skip); assumption) | (apply Rd.oldR; (repeat first | exact In.here | apply In.there | apply In.skip); assumption) | exact Rd.nil | assumption); (first | eq_refl | omega); omega; omega)
      | (apply G_app; (first | exact wr_p | kernel_rfl); eq_refl; eq_refl; (intro A c; (repeat first | exact Upd.here | apply Upd.there | apply Upd.skip)); infer_instance; (repeat first | exact In.here | apply In.there | apply In.skip); (repeat first | exact Dec.nil | apply Dec.pr | apply Dec.tr | (apply Dec.c1; eq_refl) | (apply Dec.c2; eq_refl) | (apply Dec.c3; eq_refl)); eq_refl; eq_refl; eq_refl; ((try simp only [List.length_append, List.length_cons, List.length_nil]); omega); decide; intro _ _)
      | (apply G_new (fun b => .slice (some ⟨b, 0, none⟩) 1 1); eq_refl; (intro _; apply buildS45_1 <;> eq_refl); intro _))
    exact ⟨(i + 1, _, _, _), (by repeat first | exact trivial | refine ⟨rfl, ?_⟩), (by repeat first | exact Wk.nil | exact Wk.refl | (apply Wk.cons; (focus ((repeat first | exact Rem.here | apply Rem.there | apply Rem.skip); done))) | apply Wk.nilv | apply Wk.last | apply Wk.drop), ⟨hlt, by rw [List.take_succ_eq_append_getElem hlt, List.map_append, ho, gt_nat hlt]; rfl⟩, by simp only; omega⟩
  · repeat' (first
      | (apply GC_seqK; intro K hK)
      | (apply hK; clear hK K)
      | (clear hK K; apply hK; clear hK K)
      | (apply GC_region)
      | (apply GL_nil)
      | (apply thenG_normal)
      | (apply thenG_exit)
      | (apply blockG_hit)
      | (apply GC_ret)
      | (apply GC_exit)
      | (apply GC_if_false; eq_refl)
      | (apply retG1; eq_refl)
      | (apply GL_on; eq_refl; eq_refl)
      | (apply G_pv; eq_refl; first | exact trivial | omega)
      | (apply G_cmpF; eq_refl; eq_refl; omega)
      | (apply G_len; eq_refl))
    rw [List.take_of_length_le hge] at ho
    subst ho
    exact ⟨[_], (by repeat first | exact Wk.nil | exact Wk.refl | (apply Wk.cons; (focus ((repeat first | exact Rem.here | apply Rem.there | apply Rem.skip); done))) | apply Wk.nilv | apply Wk.last | apply Wk.drop), _, _, rfl, rfl⟩
theorem Binary_cv {w : World} {c : Circ} {h js : Hd} (R : Right c) (H : CirAt w c h js) : CVN Try.prog 106 [.agg (ccells c h).toArray] w fun v N => N = [] ∧ ∃ β : Bool, v = .bool β ∧ (β = true ↔ BinOk c) := by
  have hLat := H.latches
  have hInp := H.inputs
  have hAnd := H.ands
  have m0 := R.m0
  have m1 := R.m1
  have n1 := R.nIn
  have n2 := R.nLat
  have n3 := R.nAnd
  refine CVN.enter 79 [2] Try.func106 rfl rfl rfl (by decide) rfl ?_
  repeat' (first
      | (apply GC_seqK; intro K hK)
      | (apply hK; clear hK K)
      | (apply GC_block)
      | (apply GC_region)
      | (apply GL_nil)
      | (apply thenG_normal)
      | (apply GL_on; eq_refl; eq_refl)
      | (apply G_pv; eq_refl; first | exact trivial | omega)
      | (apply G_box; eq_refl; eq_refl; intro _))
  rename_i b1
  refine GC_loopK [1] (fun s : Nat × Int => [(3, nu s.2), (4, nu s.1)]) (fun _ => [.box b1 51 (ccells c h), .old w none_]) (fun s => s.1 ≤ c.inputs.length ∧ s.2 = 2 * s.1 + 2 ∧ ∀ j : Nat, j < s.1 → gt c.inputs (j : Int) = 2 * j + 2) (fun s => c.inputs.length - s.1) (0, 2) (by repeat first | exact Pick.nil | (apply Pick.cons; eq_refl)) (by repeat first | exact trivial | refine ⟨rfl, ?_⟩) (by repeat first | exact Wk.nil | exact Wk.refl | (apply Wk.cons; (focus ((repeat first | exact Rem.here | apply Rem.there | apply Rem.skip); done))) | apply Wk.nilv | apply Wk.last | apply Wk.drop) ⟨Nat.zero_le _, rfl, fun j hj => absurd hj (Nat.not_lt_zero _)⟩ ?_
  rintro ⟨i, x⟩ ⟨hi, hx, hI⟩
  dsimp only at hi hx hI ⊢
  rcases Nat.lt_or_ge i c.inputs.length with hlt | hge
  · by_cases hg : gt c.inputs (i : Int) = x
    · repeat' (first
      | (apply GC_seqK; intro K hK)
      | (apply hK; clear hK K)
      | (apply GC_block)
      | (apply GC_region)
      | (apply GL_nil)
      | (apply thenG_normal)
      | (apply blockG_normal)
      | (apply GC_skip)
      | (apply GC_if_true; eq_refl)
      | (apply GC_if_false; eq_refl)
      | (apply GL_on; eq_refl; eq_refl)
      | (apply G_pv; eq_refl; first | exact trivial | omega)
      | (apply G_field; eq_refl)
      | (apply G_ld; eq_refl; (repeat first | exact In.here | apply In.there | apply In.skip); eq_refl)
      | (apply G_rd; eq_refl; (first | (apply Rd.own; (repeat first | exact In.here | apply In.there | apply In.skip); infer_instance) | (apply Rd.old; (repeat first | exact In.here | apply In.there | apply In.skip); assumption) | (apply Rd.oldR; (repeat first | exact In.here | apply In.there | apply In.skip); assumption) | exact Rd.nil | assumption); (case ih => infer_instance); omega; omega; eq_refl)
      | (apply G_cmpT; eq_refl; eq_refl; omega)
      | (apply G_cmpF; eq_refl; eq_refl; omega)
      | (apply G_len; eq_refl)
      | (apply G_ix; eq_refl; eq_refl; (first | (apply Rd.own; (repeat first | exact In.here | apply In.there | apply In.skip); infer_instance) | (apply Rd.old; (repeat first | exact In.here | apply In.there | apply In.skip); assumption) | (apply Rd.oldR; (repeat first | exact In.here | apply In.there | apply In.skip); assumption) | exact Rd.nil | assumption); (first | eq_refl | omega); omega; omega))
      exact ⟨(i + 1, _), (by repeat first | exact trivial | refine ⟨rfl, ?_⟩), (by repeat first | exact Wk.nil | exact Wk.refl | (apply Wk.cons; (focus ((repeat first | exact Rem.here | apply Rem.there | apply Rem.skip); done))) | apply Wk.nilv | apply Wk.last | apply Wk.drop), ⟨hlt, by simp only; omega, fun j hj => if h1 : j < i then hI j h1 else by obtain rfl : j = i := (by simp only at hj; omega); omega⟩, by simp only; omega⟩
    · repeat' (first
      | (apply GC_seqK; intro K hK)
      | (apply hK; clear hK K)
      | (apply GC_block)
      | (apply GC_region)
      | (apply GL_nil)
      | (apply thenG_normal)
      | (apply thenG_ret)
      | (apply blockG_ret)
      | (apply GC_ret)
      | (apply GC_skip)
      | (apply GC_if_true; eq_refl)
      | (apply retG1; eq_refl)
      | (apply GL_on; eq_refl; eq_refl)
      | (apply G_pv; eq_refl; first | exact trivial | omega)
      | (apply G_field; eq_refl)
      | (apply G_ld; eq_refl; (repeat first | exact In.here | apply In.there | apply In.skip); eq_refl)
      | (apply G_rd; eq_refl; (first | (apply Rd.own; (repeat first | exact In.here | apply In.there | apply In.skip); infer_instance) | (apply Rd.old; (repeat first | exact In.here | apply In.there | apply In.skip); assumption) | (apply Rd.oldR; (repeat first | exact In.here | apply In.there | apply In.skip); assumption) | exact Rd.nil | assumption); (case ih => infer_instance); omega; omega; eq_refl)
      | (apply G_cmpT; eq_refl; eq_refl; omega)
      | (apply G_len; eq_refl)
      | (apply G_ix; eq_refl; eq_refl; (first | (apply Rd.own; (repeat first | exact In.here | apply In.there | apply In.skip); infer_instance) | (apply Rd.old; (repeat first | exact In.here | apply In.there | apply In.skip); assumption) | (apply Rd.oldR; (repeat first | exact In.here | apply In.there | apply In.skip); assumption) | exact Rd.nil | assumption); (first | eq_refl | omega); omega; omega))
      exact ⟨[], (by repeat first | exact Wk.nil | exact Wk.refl | (apply Wk.cons; (focus ((repeat first | exact Rem.here | apply Rem.there | apply Rem.skip); done))) | apply Wk.nilv | apply Wk.last | apply Wk.drop), rfl, false, rfl, ⟨(fun h => by cases h), fun h => absurd (h.inp i hlt) (by omega)⟩⟩
  obtain rfl : i = c.inputs.length := by omega
  repeat' (first
      | (apply GC_seqK; intro K hK)
      | (apply hK; clear hK K)
      | (clear hK K; apply hK; clear hK K)
      | (apply GC_block)
      | (apply GC_region)
      | (apply GL_nil)
      | (apply thenG_normal)
      | (apply thenG_exit)
      | (apply blockG_hit)
      | (apply GC_exit)
      | (apply GC_if_false; eq_refl)
      | (apply GL_on; eq_refl; eq_refl)
      | (apply G_pv; eq_refl; first | exact trivial | omega)
      | (apply G_field; eq_refl)
      | (apply G_ld; eq_refl; (repeat first | exact In.here | apply In.there | apply In.skip); eq_refl)
      | (apply G_cmpF; eq_refl; eq_refl; omega)
      | (apply G_len; eq_refl))
  refine GC_loopK [1] (fun s : Nat × Int => [(3, nu s.2), (5, nu s.1)]) (fun _ => [.box b1 51 (ccells c h), .old w none_]) (fun s => s.1 ≤ c.latches.length ∧ s.2 = 2 * (c.inputs.length + s.1) + 2 ∧ ∀ j : Nat, j < s.1 → (gt c.latches (j : Int)).1 = 2 * (c.inputs.length + j) + 2) (fun s => c.latches.length - s.1) (0, _) (by repeat first | exact Pick.nil | (apply Pick.cons; eq_refl)) (by repeat first | exact trivial | refine ⟨rfl, ?_⟩) (by repeat first | exact Wk.nil | exact Wk.refl | (apply Wk.cons; (focus ((repeat first | exact Rem.here | apply Rem.there | apply Rem.skip); done))) | apply Wk.nilv | apply Wk.last | apply Wk.drop) ⟨Nat.zero_le _, by simp only; omega, fun j hj => absurd hj (Nat.not_lt_zero _)⟩ ?_
  rintro ⟨i, x2⟩ ⟨hi2, hx2, hL⟩
  dsimp only at hi2 hx2 hL ⊢
  rcases Nat.lt_or_ge i c.latches.length with hlt | hge2
  · by_cases hg : (gt c.latches (i : Int)).1 = x2
    · repeat' (first
      | (apply GC_seqK; intro K hK)
      | (apply hK; clear hK K)
      | (apply GC_block)
      | (apply GC_region)
      | (apply GL_nil)
      | (apply thenG_normal)
      | (apply blockG_normal)
      | (apply GC_skip)
      | (apply GC_if_true; eq_refl)
      | (apply GC_if_false; eq_refl)
      | (apply GL_on; eq_refl; eq_refl)
      | (apply G_pv; eq_refl; first | exact trivial | omega)
      | (apply G_field; eq_refl)
      | (apply G_fieldP; eq_refl)
      | (apply G_ld; eq_refl; (repeat first | exact In.here | apply In.there | apply In.skip); eq_refl)
      | (apply G_rd; eq_refl; (first | (apply Rd.own; (repeat first | exact In.here | apply In.there | apply In.skip); infer_instance) | (apply Rd.old; (repeat first | exact In.here | apply In.there | apply In.skip); assumption) | (apply Rd.oldR; (repeat first | exact In.here | apply In.there | apply In.skip); assumption) | exact Rd.nil | assumption); (case ih => infer_instance); omega; omega; eq_refl)
      | (apply G_cmpT; eq_refl; eq_refl; omega)
      | (apply G_cmpF; eq_refl; eq_refl; omega)
      | (apply G_len; eq_refl)
      | (apply G_ix; eq_refl; eq_refl; (first | (apply Rd.own; (repeat first | exact In.here | apply In.there | apply In.skip); infer_instance) | (apply Rd.old; (repeat first | exact In.here | apply In.there | apply In.skip); assumption) | (apply Rd.oldR; (repeat first | exact In.here | apply In.there | apply In.skip); assumption) | exact Rd.nil | assumption); (first | eq_refl | omega); omega; omega))
      exact ⟨(i + 1, _), (by repeat first | exact trivial | refine ⟨rfl, ?_⟩), (by repeat first | exact Wk.nil | exact Wk.refl | (apply Wk.cons; (focus ((repeat first | exact Rem.here | apply Rem.there | apply Rem.skip); done))) | apply Wk.nilv | apply Wk.last | apply Wk.drop), ⟨hlt, by simp only; omega, fun j hj => if h1 : j < i then hL j h1 else by obtain rfl : j = i := (by simp only at hj; omega); omega⟩, by simp only; omega⟩
    · repeat' (first
      | (apply GC_seqK; intro K hK)
      | (apply hK; clear hK K)
      | (apply GC_block)
      | (apply GC_region)
      | (apply GL_nil)
      | (apply thenG_normal)
      | (apply thenG_ret)
      | (apply blockG_ret)
      | (apply GC_ret)
      | (apply GC_skip)
      | (apply GC_if_true; eq_refl)
      | (apply retG1; eq_refl)
      | (apply GL_on; eq_refl; eq_refl)
      | (apply G_pv; eq_refl; first | exact trivial | omega)
      | (apply G_field; eq_refl)
      | (apply G_fieldP; eq_refl)
      | (apply G_ld; eq_refl; (repeat first | exact In.here | apply In.there | apply In.skip); eq_refl)
      | (apply G_rd; eq_refl; (first | (apply Rd.own; (repeat first | exact In.here | apply In.there | apply In.skip); infer_instance) | (apply Rd.old; (repeat first | exact In.here | apply In.there | apply In.skip); assumption) | (apply Rd.oldR; (repeat first | exact In.here | apply In.there | apply In.skip); assumption) | exact Rd.nil | assumption); (case ih => infer_instance); omega; omega; eq_refl)
      | (apply G_cmpT; eq_refl; eq_refl; omega)
      | (apply G_len; eq_refl)
      | (apply G_ix; eq_refl; eq_refl; (first | (apply Rd.own; (repeat first | exact In.here | apply In.there | apply In.skip); infer_instance) | (apply Rd.old; (repeat first | exact In.here | apply In.there | apply In.skip); assumption) | (apply Rd.oldR; (repeat first | exact In.here | apply In.there | apply In.skip); assumption) | exact Rd.nil | assumption); (first | eq_refl | omega); omega; omega))
      exact ⟨[], (by repeat first | exact Wk.nil | exact Wk.refl | (apply Wk.cons; (focus ((repeat first | exact Rem.here | apply Rem.there | apply Rem.skip); done))) | apply Wk.nilv | apply Wk.last | apply Wk.drop), rfl, false, rfl, ⟨(fun h => by cases h), fun h => absurd (h.lat i hlt) (by omega)⟩⟩
  obtain rfl : i = c.latches.length := by omega
  repeat' (first
      | (apply GC_seqK; intro K hK)
      | (apply hK; clear hK K)
      | (clear hK K; apply hK; clear hK K)
      | (apply GC_block)
      | (apply GC_region)
      | (apply GL_nil)
      | (apply thenG_normal)
      | (apply thenG_exit)
      | (apply blockG_hit)
      | (apply GC_exit)
      | (apply GC_if_false; eq_refl)
      | (apply GL_on; eq_refl; eq_refl)
      | (apply G_pv; eq_refl; first | exact trivial | omega)
      | (apply G_field; eq_refl)
      | (apply G_ld; eq_refl; (repeat first | exact In.here | apply In.there | apply In.skip); eq_refl)
      | (apply G_cmpF; eq_refl; eq_refl; omega)
      | (apply G_len; eq_refl))
  refine GC_loopK [1] (fun s : Nat × Int => [(3, nu s.2), (6, nu s.1)]) (fun _ => [.box b1 51 (ccells c h), .old w none_]) (fun s => s.1 ≤ c.ands.length ∧ s.2 = 2 * (c.inputs.length + c.latches.length + s.1) + 2 ∧ ∀ j : Nat, j < s.1 → (gt c.ands (j : Int)).1 = 2 * (c.inputs.length + c.latches.length + j) + 2 ∧ (gt c.ands (j : Int)).2.1 < (gt c.ands (j : Int)).1 ∧ (gt c.ands (j : Int)).2.2 ≤ (gt c.ands (j : Int)).2.1) (fun s => c.ands.length - s.1) (0, _) (by repeat first | exact Pick.nil | (apply Pick.cons; eq_refl)) (by repeat first | exact trivial | refine ⟨rfl, ?_⟩) (by repeat first | exact Wk.nil | exact Wk.refl | (apply Wk.cons; (focus ((repeat first | exact Rem.here | apply Rem.there | apply Rem.skip); done))) | apply Wk.nilv | apply Wk.last | apply Wk.drop) ⟨Nat.zero_le _, by simp only; omega, fun j hj => absurd hj (Nat.not_lt_zero _)⟩ ?_
  rintro ⟨i, x3⟩ ⟨hi3, hx3, hG⟩
  dsimp only at hi3 hx3 hG ⊢
  rcases Nat.lt_or_ge i c.ands.length with hlt | hge3
  · by_cases hg : (gt c.ands (i : Int)).1 = x3 ∧ (gt c.ands (i : Int)).2.1 < (gt c.ands (i : Int)).1 ∧ (gt c.ands (i : Int)).2.2 ≤ (gt c.ands (i : Int)).2.1
    · obtain ⟨q1, q2, q3⟩ := hg
      repeat' (first
      | (apply GC_seqK; intro K hK)
      | (apply hK; clear hK K)
      | (apply GC_block)
      | (apply GC_region)
      | (apply GL_nil)
      | (apply thenG_normal)
      | (apply blockG_normal)
      | (apply GC_skip)
      | (apply GC_if_true; eq_refl)
      | (apply GC_if_false; eq_refl)
      | (apply GL_on; eq_refl; eq_refl)
      | (apply G_pv; eq_refl; first | exact trivial | omega)
      | (apply G_field; eq_refl)
      | (apply G_ld; eq_refl; (repeat first | exact In.here | apply In.there | apply In.skip); eq_refl)
      | (apply G_rdW; eq_refl; (first | (apply Rd.own; (repeat first | exact In.here | apply In.there | apply In.skip); infer_instance) | (apply Rd.old; (repeat first | exact In.here | apply In.there | apply In.skip); assumption) | (apply Rd.oldR; (repeat first | exact In.here | apply In.there | apply In.skip); assumption) | exact Rd.nil | assumption); infer_instance; (case ih => infer_instance); omega; omega)
      | (apply G_cmpT; eq_refl; eq_refl; omega)
      | (apply G_cmpF; eq_refl; eq_refl; omega)
      | (apply G_len; eq_refl)
      | (apply G_ix; eq_refl; eq_refl; (first | (apply Rd.own; (repeat first | exact In.here | apply In.there | apply In.skip); infer_instance) | (apply Rd.old; (repeat first | exact In.here | apply In.there | apply In.skip); assumption) | (apply Rd.oldR; (repeat first | exact In.here | apply In.there | apply In.skip); assumption) | exact Rd.nil | assumption); (first | eq_refl | omega); omega; omega)
      | (apply G_alloc; eq_refl; intro _)
      | (apply G_stW; (first | exact wr_p | kernel_rfl); eq_refl; eq_refl; eq_refl; eq_refl; (repeat first | exact Upd.here | apply Upd.there | apply Upd.skip); eq_refl))
      exact ⟨(i + 1, _), (by repeat first | exact trivial | refine ⟨rfl, ?_⟩), (by repeat first | exact Wk.nil | exact Wk.refl | (apply Wk.cons; (focus ((repeat first | exact Rem.here | apply Rem.there | apply Rem.skip); done))) | apply Wk.nilv | apply Wk.last | apply Wk.drop), ⟨hlt, by simp only; omega, fun j hj => if h1 : j < i then hG j h1 else by obtain rfl : j = i := (by simp only at hj; omega); exact ⟨by omega, q2, q3⟩⟩, by simp only; omega⟩
    · repeat' (first
      | (apply GC_seqK; intro K hK)
      | (apply hK; clear hK K)
      | (apply GC_block)
      | (apply GC_region)
      | (apply GL_nil)
      | (apply thenG_normal)
      | (apply thenG_ret)
      | (apply blockG_ret)
      | (apply GC_ret)
      | (apply GC_skip)
      | (apply GC_if_true; eq_refl)
      | (apply retG1; eq_refl)
      | (apply GL_on; eq_refl; eq_refl)
      | (apply GL_off; eq_refl; eq_refl)
      | (apply G_pv; eq_refl; first | exact trivial | omega)
      | (apply G_field; eq_refl)
      | (apply G_ld; eq_refl; (repeat first | exact In.here | apply In.there | apply In.skip); eq_refl)
      | (apply G_rdW; eq_refl; (first | (apply Rd.own; (repeat first | exact In.here | apply In.there | apply In.skip); infer_instance) | (apply Rd.old; (repeat first | exact In.here | apply In.there | apply In.skip); assumption) | (apply Rd.oldR; (repeat first | exact In.here | apply In.there | apply In.skip); assumption) | exact Rd.nil | assumption); infer_instance; (case ih => infer_instance); omega; omega)
      | (apply G_cmpT; eq_refl; eq_refl; omega)
      | (apply G_cmp; eq_refl; eq_refl; all_goals intro _)
      | (apply G_len; eq_refl)
      | (apply G_ix; eq_refl; eq_refl; (first | (apply Rd.own; (repeat first | exact In.here | apply In.there | apply In.skip); infer_instance) | (apply Rd.old; (repeat first | exact In.here | apply In.there | apply In.skip); assumption) | (apply Rd.oldR; (repeat first | exact In.here | apply In.there | apply In.skip); assumption) | exact Rd.nil | assumption); (first | eq_refl | omega); omega; omega)
      | (apply G_alloc; eq_refl; intro _)
      | (apply G_stW; (first | exact wr_p | kernel_rfl); eq_refl; eq_refl; eq_refl; eq_refl; (repeat first | exact Upd.here | apply Upd.there | apply Upd.skip); eq_refl))
      all_goals first
        | (exfalso; omega)
        | exact ⟨[], (by repeat first | exact Wk.nil | exact Wk.refl | (apply Wk.cons; (focus ((repeat first | exact Rem.here | apply Rem.there | apply Rem.skip); done))) | apply Wk.nilv | apply Wk.last | apply Wk.drop), rfl, false, rfl, ⟨(fun h => by cases h), fun h => absurd (h.and i hlt) (by omega)⟩⟩
  obtain rfl : i = c.ands.length := by omega
  by_cases hmx : (c.inputs.length : Int) + c.latches.length + c.ands.length = c.max
  · repeat' (first
      | (apply GC_seqK; intro K hK)
      | (apply hK; clear hK K)
      | (clear hK K; apply hK; clear hK K)
      | (apply GC_region)
      | (apply GL_nil)
      | (apply thenG_normal)
      | (apply thenG_exit)
      | (apply blockG_hit)
      | (apply GC_ret)
      | (apply GC_exit)
      | (apply GC_if_false; eq_refl)
      | (apply retG1; eq_refl)
      | (apply GL_on; eq_refl; eq_refl)
      | (apply G_pv; eq_refl; first | exact trivial | omega)
      | (apply G_field; eq_refl)
      | (apply G_ld; eq_refl; (repeat first | exact In.here | apply In.there | apply In.skip); eq_refl)
      | (apply G_cmpT; eq_refl; eq_refl; omega)
      | (apply G_cmpF; eq_refl; eq_refl; omega)
      | (apply G_len; eq_refl))
    exact ⟨[], (by repeat first | exact Wk.nil | exact Wk.refl | (apply Wk.cons; (focus ((repeat first | exact Rem.here | apply Rem.there | apply Rem.skip); done))) | apply Wk.nilv | apply Wk.last | apply Wk.drop), rfl, true, rfl, ⟨fun _ => ⟨hI, hL, hG, hmx⟩, fun _ => rfl⟩⟩
  · repeat' (first
      | (apply GC_seqK; intro K hK)
      | (apply hK; clear hK K)
      | (clear hK K; apply hK; clear hK K)
      | (apply GC_region)
      | (apply GL_nil)
      | (apply thenG_normal)
      | (apply thenG_exit)
      | (apply blockG_hit)
      | (apply GC_ret)
      | (apply GC_exit)
      | (apply GC_if_false; eq_refl)
      | (apply retG1; eq_refl)
      | (apply GL_on; eq_refl; eq_refl)
      | (apply G_pv; eq_refl; first | exact trivial | omega)
      | (apply G_field; eq_refl)
      | (apply G_ld; eq_refl; (repeat first | exact In.here | apply In.there | apply In.skip); eq_refl)
      | (apply G_cmpF; eq_refl; eq_refl; omega)
      | (apply G_len; eq_refl))
    exact ⟨[], (by repeat first | exact Wk.nil | exact Wk.refl | (apply Wk.cons; (focus ((repeat first | exact Rem.here | apply Rem.there | apply Rem.skip); done))) | apply Wk.nilv | apply Wk.last | apply Wk.drop), rfl, false, rfl, ⟨(fun h => by cases h), fun h => absurd h.max hmx⟩⟩
end SC
end Go.Proofs.Ytkndegjodnciaaa
end
section
/- The renumbering's map: what it gives to each variable of a right circuit. -/
set_option linter.unusedVariables false
set_option linter.unusedSimpArgs false
namespace Go.Proofs.Ytkndegjodnciaaa
namespace SC
open Go.Proofs
theorem nodup_map {α β : Type} {f : α → β} {l : List α} (hf : ∀ a b, f a = f b → a = b) (h : l.Nodup) : (l.map f).Nodup := by
  rw [List.Nodup, List.pairwise_map]
  exact h.imp fun {a b} hab e => hab (hf a b e)
theorem nodup_of_map {α β : Type} {f : α → β} {l : List α} (h : (l.map f).Nodup) : l.Nodup := by
  rw [List.Nodup, List.pairwise_map] at h
  exact h.imp fun {a b} hab e => hab (by rw [e])
theorem mapOf_all {max : Int} {ks : List Int} (hr : ∀ k ∈ ks, rg (max + 1).toNat (k / 2)) (hn : (ks.map (· / 2)).Nodup) : ∀ (n : Nat), n ≤ ks.length → ∀ v, 0 ≤ v → (∀ (j : Nat) (hj : j < ks.length), j < n → v = ks[j] / 2 → L (mapOf max (ks.take n)) v = 2 * j + 2) ∧ ((∀ (j : Nat) (hj : j < ks.length), j < n → v ≠ ks[j] / 2) → L (mapOf max (ks.take n)) v = 0) := by
  intro n
  induction n with
  | zero =>
    intro _ v _
    rw [List.take_zero]
    exact ⟨fun j _ hj => absurd hj (Nat.not_lt_zero _), fun _ => L_rep _ v⟩
  | succ n ih =>
    intro hn' v hv
    have hlt : n < ks.length := by omega
    rw [List.take_succ_eq_append_getElem hlt, mapOf_snoc, L_set _ (by rw [mapOf_len]; exact hr _ (List.getElem_mem hlt)) hv, List.length_take, Nat.min_eq_left (by omega)]
    obtain ⟨i1, i2⟩ := ih (by omega) v hv
    refine ⟨fun j hj hjn e => ?_, fun h => ?_⟩
    · by_cases hjn' : j = n
      · subst hjn'
        rw [if_pos e]
      · have hne : v ≠ ks[n] / 2 := fun e2 => hjn' (by
          have h1 : (ks.map (· / 2))[j]'(by simpa using hj) = (ks.map (· / 2))[n]'(by simpa using hlt) := by simp only [List.getElem_map]; rw [← e, ← e2]
          exact nodup_ix hn (by simpa using hj) (by simpa using hlt) h1)
        rw [if_neg hne]
        exact i1 j hj (by omega) e
    · rw [if_neg (h n hlt (by omega))]
      exact i2 fun j hj hjn => h j hj (by omega)
theorem mapOf_at {max : Int} {ks : List Int} (hr : ∀ k ∈ ks, rg (max + 1).toNat (k / 2)) (hn : (ks.map (· / 2)).Nodup) {j : Nat} (hj : j < ks.length) : L (mapOf max ks) (ks[j] / 2) = 2 * j + 2 := by
  have h := (mapOf_all hr hn ks.length (Nat.le_refl _) (ks[j] / 2) (hr _ (List.getElem_mem hj)).1).1 j hj hj rfl
  rwa [List.take_length] at h
theorem mapOf_no {max : Int} {ks : List Int} (hr : ∀ k ∈ ks, rg (max + 1).toNat (k / 2)) (hn : (ks.map (· / 2)).Nodup) {v : Int} (hv : 0 ≤ v) (h0 : ∀ k ∈ ks, v ≠ k / 2) : L (mapOf max ks) v = 0 := by
  have h := (mapOf_all hr hn ks.length (Nat.le_refl _) v hv).2 fun j hj _ => h0 _ (List.getElem_mem hj)
  rwa [List.take_length] at h
section
variable {c : Circ} (R : Right c)
include R
/-- What defines a variable. -/
theorem Right.defs {k : Int} (h : k ∈ defsOf c (ordM c)) : defR c k := by
  unfold defsOf at h
  rcases List.mem_append.1 h with h | h
  · rcases List.mem_append.1 h with h | h
    · exact R.inp h
    · obtain ⟨x, hx, rfl⟩ := List.mem_map.1 h
      exact (R.lat hx).1
  · obtain ⟨i, hi, rfl⟩ := List.mem_map.1 h
    have ho := R.ord hi
    refine (R.gate ?_).1
    unfold andAt
    have hlt : i.toNat < c.ands.length := by omega
    simp [hlt]
theorem Right.defs_rg {k : Int} (h : k ∈ defsOf c (ordM c)) : rg (c.max + 1).toNat (k / 2) := by
  have := R.defs h
  have := R.m0
  unfold defR at *
  unfold rg
  omega
theorem Right.defs_nodup : ((defsOf c (ordM c)).map (· / 2)).Nodup := by
  have hT := R.tab
  generalize htab : tabM c = t at *
  have key : ((defsOf c (ordM c)).map (· / 2)).map (fun v : Int => t[v.toNat]?) = ((List.range c.inputs.length).map fun (j : Nat) => some ((1 : Int), (j : Int))) ++ ((List.range c.latches.length).map fun (j : Nat) => some ((2 : Int), (j : Int))) ++ (ordM c).map fun i => some ((3 : Int), i) := by
    unfold defsOf
    simp only [List.map_append, List.map_map]
    congr 1
    · congr 1
      · apply List.ext_getElem (by simp)
        intro j h1 h2
        simp only [List.length_map] at h1
        simp only [List.getElem_map, Function.comp_apply, List.getElem_range]
        exact (hT.inp j h1).2
      · apply List.ext_getElem (by simp)
        intro j h1 h2
        simp only [List.length_map] at h1
        simp only [List.getElem_map, Function.comp_apply, List.getElem_range]
        exact (hT.lat j h1).2.1
    · apply List.map_congr_left
      intro i hi
      have ho := R.ord hi
      have hlt : i.toNat < c.ands.length := by omega
      simp only [Function.comp_apply]
      have := (hT.gat i.toNat hlt).2
      rw [show ((i.toNat : Nat) : Int) = i by omega] at this
      rw [show andAt c i = c.ands[i.toNat] by unfold andAt; simp [hlt]]
      exact this
  have hnd : (((List.range c.inputs.length).map fun (j : Nat) => some ((1 : Int), (j : Int))) ++ ((List.range c.latches.length).map fun (j : Nat) => some ((2 : Int), (j : Int))) ++ (ordM c).map fun i => some ((3 : Int), i)).Nodup := by
    have h1 : ∀ (k : Int) (n : Nat), ((List.range n).map fun (j : Nat) => some (k, (j : Int))).Nodup := fun k n => nodup_map (fun a b e => by simp at e; omega) List.nodup_range
    have h3 : ((ordM c).map fun i => some ((3 : Int), i)).Nodup := nodup_map (fun a b e => by simpa using e) R.all.told.nodup
    rw [List.nodup_append, List.nodup_append]
    refine ⟨⟨h1 1 _, h1 2 _, ?_⟩, h3, ?_⟩
    · intro a ha b hb e
      obtain ⟨x, _, rfl⟩ := List.mem_map.1 ha
      obtain ⟨y, _, rfl⟩ := List.mem_map.1 hb
      simp at e
    · intro a ha b hb e
      obtain ⟨y, _, rfl⟩ := List.mem_map.1 hb
      rcases List.mem_append.1 ha with ha | ha
      · obtain ⟨x, _, rfl⟩ := List.mem_map.1 ha
        simp at e
      · obtain ⟨x, _, rfl⟩ := List.mem_map.1 ha
        simp at e
  rw [← key] at hnd
  exact nodup_of_map hnd
theorem Right.to_at {j : Nat} (hj : j < (defsOf c (ordM c)).length) : L (mapOf c.max (defsOf c (ordM c))) ((defsOf c (ordM c))[j] / 2) = 2 * j + 2 := mapOf_at (fun _ => R.defs_rg) R.defs_nodup hj
theorem Right.to_no {v : Int} (hv : 0 ≤ v) (h0 : ∀ k ∈ defsOf c (ordM c), v ≠ k / 2) : L (mapOf c.max (defsOf c (ordM c))) v = 0 := mapOf_no (fun _ => R.defs_rg) R.defs_nodup hv h0
end
end SC
end Go.Proofs.Ytkndegjodnciaaa
end
section
/- Definitions that are apart pass; the renumbered circuit's definitions. -/
set_option linter.unusedVariables false
set_option linter.unusedSimpArgs false
namespace Go.Proofs.Ytkndegjodnciaaa
namespace SC
open Go.Proofs
/-! ### the renumbered circuit -/
section
variable {c : Circ} (R : Right c)
/-- The circuit in the binary order; the map. -/
noncomputable abbrev renC (c : Circ) : Circ := renM c (ordM c)
noncomputable abbrev toM (c : Circ) : List Int := mapOf c.max (defsOf c (ordM c))
include R
theorem Right.nDefs : (defsOf c (ordM c)).length = c.inputs.length + c.latches.length + c.ands.length := by unfold defsOf; simp [R.ordLen]; omega
theorem Right.nDefs_le : ((defsOf c (ordM c)).length : Int) ≤ c.max := by
  have h1 := nodup_size c.max.toNat (((defsOf c (ordM c)).map (· / 2)).map (· - 1)) (nodup_map (fun a b e => by omega) R.defs_nodup) fun y hy => by
    obtain ⟨z, hz, rfl⟩ := List.mem_map.1 hy
    obtain ⟨k, hk, rfl⟩ := List.mem_map.1 hz
    have := R.defs hk
    unfold defR at this
    unfold rg
    omega
  simp only [List.length_map] at h1
  have := R.m0
  omega
theorem Right.lit_def {j : Nat} (hj : j < (defsOf c (ordM c)).length) : litM (toM c) (defsOf c (ordM c))[j] = 2 * j + 2 := by
  have h1 := R.to_at hj
  have h2 := R.defs (List.getElem_mem hj)
  unfold defR at h2
  show L (toM c) _ + _ = _
  rw [h1]
  omega
end
theorem ren_max {c : Circ} : (renC c).max = (defsOf c (ordM c)).length := rfl
end SC
end Go.Proofs.Ytkndegjodnciaaa
end
section
/- The renumbered circuit is right. -/
set_option linter.unusedVariables false
set_option linter.unusedSimpArgs false
namespace Go.Proofs.Ytkndegjodnciaaa
namespace SC
open Go.Proofs
section
variable {c : Circ} (R : Right c)
include R
/-- Where a variable goes. -/
theorem Right.to_cases {v : Int} (hv : 0 ≤ v) : (L (toM c) v = 0 ∧ ∀ k ∈ defsOf c (ordM c), v ≠ k / 2) ∨ ∃ (j : Nat) (hj : j < (defsOf c (ordM c)).length), v = (defsOf c (ordM c))[j] / 2 ∧ L (toM c) v = 2 * j + 2 := by
  by_cases h : ∃ k ∈ defsOf c (ordM c), v = k / 2
  · obtain ⟨k, hk, rfl⟩ := h
    obtain ⟨j, hj, rfl⟩ := List.mem_iff_getElem.1 hk
    exact .inr ⟨j, hj, rfl, R.to_at hj⟩
  · have h0 : ∀ k ∈ defsOf c (ordM c), v ≠ k / 2 := fun k hk e => h ⟨k, hk, e⟩
    exact .inl ⟨R.to_no hv h0, h0⟩
theorem Right.ren_lens : (renC c).lens = c.lens := by
  unfold Circ.lens renC renM
  simp [R.ordLen]
end
end SC
end Go.Proofs.Ytkndegjodnciaaa
end
section
/- The renumbered circuit's order; it looks right. -/
set_option linter.unusedVariables false
set_option linter.unusedSimpArgs false
namespace Go.Proofs.Ytkndegjodnciaaa
namespace SC
open Go.Proofs
/-- 0, 1, .. -/
def upto (n : Nat) : List Int := (List.range n).map fun (k : Nat) => (k : Int)
theorem mem_upto {n : Nat} {y : Int} : y ∈ upto n ↔ 0 ≤ y ∧ y < n := by
  unfold upto
  rw [List.mem_map]
  constructor
  · rintro ⟨k, hk, rfl⟩
    have := List.mem_range.1 hk
    omega
  · rintro ⟨h0, h1⟩
    exact ⟨y.toNat, List.mem_range.2 (by omega), by omega⟩
theorem all_upto {n : Nat} {B : Int → List Int} (h : ∀ k : Nat, k < n → ∀ z ∈ B (k : Int), 0 ≤ z ∧ z < k) : All n B (upto n) := by
  have told : ∀ m, m ≤ n → Told n B (upto m) := by
    intro m
    induction m with
    | zero => intro _; exact Told.nil
    | succ m ih =>
      intro hm
      have e : upto (m + 1) = upto m ++ [(m : Int)] := by unfold upto; rw [List.range_succ, List.map_append]; rfl
      rw [e]
      refine Told.snoc (ih (by omega)) ⟨⟨by omega, by omega⟩, fun hh => ?_, fun z hz => mem_upto.2 (h m (by omega) z hz)⟩ fun y hy => ?_
      · have := (mem_upto.1 hh).2
        omega
      · have h1 := hy.rg
        have h2 := hy.new
        rw [mem_upto] at h2
        unfold rg at h1
        omega
  refine ⟨told n (Nat.le_refl _), fun y hy => ?_⟩
  have h1 := hy.rg
  have h2 := hy.new
  rw [mem_upto] at h2
  unfold rg at h1
  omega
section
variable {c : Circ} (R : Right c)
include R
theorem Right.def_and {j : Nat} (hj : j < (ordM c).length) : ∃ h : c.inputs.length + c.latches.length + j < (defsOf c (ordM c)).length, (defsOf c (ordM c))[c.inputs.length + c.latches.length + j] = (andAt c (ordM c)[j]).1 := by
  have h0 := R.nDefs
  have h1 := R.ordLen
  refine ⟨by omega, ?_⟩
  unfold defsOf
  rw [List.getElem_append_right (by simp)]
  simp
theorem Right.ren_out {j : Nat} (hj : j < (ordM c).length) : litM (toM c) (andAt c (ordM c)[j]).1 = 2 * ((c.inputs.length + c.latches.length + j : Nat) : Int) + 2 := by
  obtain ⟨h, e⟩ := R.def_and hj
  rw [← e]
  exact R.lit_def h
/-- A gate that another one uses was told before it. -/
theorem Right.low {k : Nat} (hk : k < (ordM c).length) {l : Int} (hl : l = (andAt c (ordM c)[k]).2.1 ∨ l = (andAt c (ordM c)[k]).2.2) {j : Nat} (hj : j < (ordM c).length) (e : l / 2 = (andAt c (ordM c)[j]).1 / 2) : j < k := by
  have ho := R.ord (List.getElem_mem hj)
  have hlt : (ordM c)[j].toNat < c.ands.length := by omega
  have h3 := (R.tab.gat _ hlt).2
  have ea : andAt c (ordM c)[j] = c.ands[(ordM c)[j].toNat] := by unfold andAt; simp [hlt]
  rw [← ea, ← e, show (((ordM c)[j].toNat : Nat) : Int) = (ordM c)[j] by omega] at h3
  have hsp : ordM c = (ordM c).take k ++ (ordM c)[k] :: (ordM c).drop (k + 1) := by
    have h1 := List.take_append_drop k (ordM c)
    rw [List.drop_eq_getElem_cons hk] at h1
    exact h1.symm
  have hlow := (R.all.told.split hsp).1.low
  have hb : (ordM c)[j] ∈ gateB (tabM c) c (ordM c)[k] := by
    show (ordM c)[j] ∈ belowL (tabM c) [(andAt c (ordM c)[k]).2.1, (andAt c (ordM c)[k]).2.2]
    rw [mem_belowL]
    exact ⟨l, by rcases hl with rfl | rfl <;> simp, kindAt_get h3, atOf_get h3⟩
  obtain ⟨k', hk', ek⟩ := List.mem_iff_getElem.1 (hlow _ hb)
  rw [List.length_take] at hk'
  rw [List.getElem_take] at ek
  have := nodup_ix R.all.told.nodup (a := k') (b := j) (by omega) hj ek
  omega
theorem Right.ren_ands : (renC c).ands.length = c.ands.length := by
  show ((ordM c).map fun i => renAnd (toM c) (andAt c i)).length = _
  rw [List.length_map, R.ordLen]
end
end SC
end Go.Proofs.Ytkndegjodnciaaa
end
section
/- The renumbered circuit's values and runs. -/
set_option linter.unusedVariables false
set_option linter.unusedSimpArgs false
namespace Go.Proofs.Ytkndegjodnciaaa
namespace SC
open Go.Proofs
section
variable {c : Circ}
end
section
variable {c : Circ} (R : Right c)
include R
theorem Right.def_inp {i : Nat} (hi : i < c.inputs.length) : ∃ h : i < (defsOf c (ordM c)).length, (defsOf c (ordM c))[i] = c.inputs[i] := by
  have h0 := R.nDefs
  refine ⟨by omega, ?_⟩
  unfold defsOf
  rw [List.getElem_append_left (by simp; omega), List.getElem_append_left hi]
theorem Right.def_lat {i : Nat} (hi : i < c.latches.length) : ∃ h : c.inputs.length + i < (defsOf c (ordM c)).length, (defsOf c (ordM c))[c.inputs.length + i] = c.latches[i].1 := by
  have h0 := R.nDefs
  refine ⟨by omega, ?_⟩
  unfold defsOf
  rw [List.getElem_append_left (by simp; omega), List.getElem_append_right (by omega)]
  simp
end
end SC
end Go.Proofs.Ytkndegjodnciaaa
end
section
/- Runs of the renumbered circuit. -/
set_option linter.unusedVariables false
set_option linter.unusedSimpArgs false
namespace Go.Proofs.Ytkndegjodnciaaa
namespace SC
open Go.Proofs
section
variable {c : Circ} (R : Right c) (R' : Right (renC c))
include R R'
end
end SC
end Go.Proofs.Ytkndegjodnciaaa
end
section
/- The binary order: a right circuit has it just if renumbering leaves it as it is. -/
set_option linter.unusedVariables false
set_option linter.unusedSimpArgs false
namespace Go.Proofs.Ytkndegjodnciaaa
namespace SC
open Go.Proofs
section
variable {c : Circ} (R : Right c)
include R
theorem Right.bin_ord (B : BinOk c) : ordM c = upto c.ands.length := by
  refine ordM_eq (all_upto fun k hk z hz => ?_)
  have hz' : z ∈ belowL (tabM c) [(andAt c (k : Int)).2.1, (andAt c (k : Int)).2.2] := hz
  rw [mem_belowL] at hz'
  obtain ⟨l, hl, h3, hat⟩ := hz'
  have ea : andAt c (k : Int) = gt c.ands (k : Int) := rfl
  obtain ⟨b1, b2, b3⟩ := B.and k hk
  rw [ea] at hl
  have hg := R.gate (gt_mem (l := c.ands) (i := (k : Int)) (by omega) (by omega))
  have hle : 0 ≤ l ∧ l ≤ (gt c.ands (k : Int)).2.1 := by
    have q1 := hg.2.1
    have q2 := hg.2.2
    unfold inR at q1 q2
    simp only [List.mem_cons, List.not_mem_nil, or_false] at hl
    rcases hl with rfl | rfl <;> omega
  obtain ⟨v, hv⟩ : ∃ v : Nat, l / 2 = v := ⟨(l / 2).toNat, by omega⟩
  rw [hv] at h3 hat
  obtain ⟨j, hj, g1, g2, _⟩ := R.tab.gate h3
  have b4 := (B.and j hj).1
  rw [gt_nat hj, g1] at b4
  omega
theorem Right.bin_defs (B : BinOk c) {d : Nat} (hd : d < (defsOf c (ordM c)).length) : (defsOf c (ordM c))[d] = 2 * (d : Int) + 2 := by
  have hn := R.nDefs
  rcases Nat.lt_or_ge d c.inputs.length with h1 | h1
  · obtain ⟨_, e⟩ := R.def_inp h1
    rw [e, ← gt_nat h1, B.inp d h1]
  rcases Nat.lt_or_ge d (c.inputs.length + c.latches.length) with h2 | h2
  · obtain ⟨i, rfl⟩ : ∃ i, d = c.inputs.length + i := ⟨d - c.inputs.length, by omega⟩
    have h3 : i < c.latches.length := by omega
    obtain ⟨_, e⟩ := R.def_lat h3
    rw [e, ← gt_nat h3, B.lat i h3]
    omega
  · obtain ⟨j, rfl⟩ : ∃ j, d = c.inputs.length + c.latches.length + j := ⟨d - (c.inputs.length + c.latches.length), by omega⟩
    have h3 : j < (ordM c).length := by have := R.ordLen; omega
    obtain ⟨_, e⟩ := R.def_and h3
    have e2 : (ordM c)[j] = (j : Int) := by
      have e3 := R.bin_ord B
      have : (ordM c)[j]? = (upto c.ands.length)[j]? := by rw [e3]
      rw [List.getElem?_eq_getElem h3] at this
      unfold upto at this
      rw [List.getElem?_map, List.getElem?_range (by have := R.ordLen; omega)] at this
      simpa using this
    rw [e, e2]
    have := (B.and j (by omega)).1
    rw [show andAt c (j : Int) = gt c.ands (j : Int) from rfl, this]
    omega
theorem Right.bin_lit (B : BinOk c) {l : Int} (h : inR c l) : litM (toM c) l = l := by
  unfold inR at h
  have hn := R.nDefs
  have hm := B.max
  have e0 : litM (toM c) l = L (toM c) (l / 2) + l % 2 := rfl
  rw [e0]
  rcases R.to_cases (v := l / 2) (by omega) with ⟨e, hno⟩ | ⟨j, hj, ed, e⟩
  · by_cases hz : l / 2 = 0
    · omega
    · exfalso
      obtain ⟨d, hd⟩ : ∃ d : Nat, l / 2 = (d : Int) + 1 := ⟨(l / 2 - 1).toNat, by omega⟩
      have hdl : d < (defsOf c (ordM c)).length := by omega
      have := hno _ (List.getElem_mem hdl)
      rw [R.bin_defs B hdl] at this
      omega
  · rw [R.bin_defs B hj] at ed
    omega
theorem Right.bin_ren (B : BinOk c) : renC c = c := by
  have ml : ∀ {ls : List Int}, (∀ l ∈ ls, inR c l) → ls.map (litM (toM c)) = ls := fun {ls} h => by
    conv => rhs; rw [← List.map_id ls]
    exact List.map_congr_left fun l hl => R.bin_lit B (h l hl)
  refine Circ.same ?_ ?_ ?_ ?_ ?_ ?_ ?_ ?_ ?_ rfl rfl
  · have := R.nDefs; have := B.max; rw [ren_max]; omega
  · exact ml fun l hl => (R.inp hl).in
  · show c.latches.map (renLatch (toM c)) = c.latches
    conv => rhs; rw [← List.map_id c.latches]
    refine List.map_congr_left fun x hx => ?_
    obtain ⟨h1, h2, h3⟩ := R.lat hx
    show (litM (toM c) x.1, litM (toM c) x.2.1, if 1 < x.2.2 then litM (toM c) x.2.2 else x.2.2) = x
    rw [R.bin_lit B h1.in, R.bin_lit B h2]
    have : (if 1 < x.2.2 then litM (toM c) x.2.2 else x.2.2) = x.2.2 := by
      split
      · rcases h3 with h3 | h3 | h3
        · omega
        · omega
        · rw [h3, R.bin_lit B h1.in]
      · rfl
    rw [this]
  · exact ml fun l hl => ⟨(R.use.outputs l hl).1, (R.use.outputs l hl).2.1⟩
  · exact ml fun l hl => R.bad hl
  · exact ml fun l hl => R.con hl
  · show c.justice.map (fun l => l.map (litM (toM c))) = c.justice
    conv => rhs; rw [← List.map_id c.justice]
    exact List.map_congr_left fun ls hls => ml fun l hl => R.just hls hl
  · exact ml fun l hl => R.fair hl
  · show (ordM c).map (fun i => renAnd (toM c) (andAt c i)) = c.ands
    rw [R.bin_ord B]
    unfold upto
    rw [List.map_map]
    apply List.ext_getElem (by simp)
    intro k h1 h2
    rw [List.getElem_map, List.getElem_range]
    show renAnd (toM c) (gt c.ands (k : Int)) = _
    have hk : k < c.ands.length := h2
    have hg := R.gate (gt_mem (l := c.ands) (i := (k : Int)) (by omega) (by omega))
    obtain ⟨_, b2, b3⟩ := B.and k hk
    unfold renAnd
    rw [R.bin_lit B hg.1.in, R.bin_lit B hg.2.1, R.bin_lit B hg.2.2, Int.max_eq_left b3, Int.min_eq_right b3, gt_nat hk]
theorem Right.ren_bin (e : renC c = c) : BinOk c := by
  have hn := R.nDefs
  have hmax : ((defsOf c (ordM c)).length : Int) = c.max := by
    have : (renC c).max = c.max := by rw [e]
    rwa [ren_max] at this
  refine ⟨fun i hi => ?_, fun i hi => ?_, fun i hi => ?_, by omega⟩
  · have h1 : c.inputs.map (litM (toM c)) = c.inputs := congrArg Circ.inputs e
    obtain ⟨hd, e2⟩ := R.def_inp hi
    have h2 := R.lit_def hd
    rw [e2] at h2
    rw [gt_nat hi, ← h2]
    have := congrArg (fun l => l[i]?) h1
    simp only [List.getElem?_map, List.getElem?_eq_getElem hi, Option.map_some, Option.some.injEq] at this
    exact this.symm
  · have h1 : c.latches.map (renLatch (toM c)) = c.latches := congrArg Circ.latches e
    obtain ⟨hd, e2⟩ := R.def_lat hi
    have h2 := R.lit_def hd
    rw [e2] at h2
    have := congrArg (fun l => l[i]?) h1
    simp only [List.getElem?_map, List.getElem?_eq_getElem hi, Option.map_some, Option.some.injEq] at this
    rw [gt_nat hi]
    have h3 : (c.latches[i]).1 = litM (toM c) c.latches[i].1 := by
      conv => lhs; rw [← this]
      rfl
    rw [h3, h2]
    omega
  · have h1 : (ordM c).map (fun i => renAnd (toM c) (andAt c i)) = c.ands := congrArg Circ.ands e
    have hk : i < (ordM c).length := by rw [R.ordLen]; exact hi
    have := congrArg (fun l => l[i]?) h1
    simp only [List.getElem?_map, List.getElem?_eq_getElem hi, List.getElem?_eq_getElem hk, Option.map_some, Option.some.injEq] at this
    have ho := R.ren_out hk
    have hlt := R.ord (List.getElem_mem hk)
    have hlt' : (ordM c)[i].toNat < c.ands.length := by omega
    have ha : andAt c (ordM c)[i] ∈ c.ands := by unfold andAt; simp [hlt']
    have hg := R.gate ha
    have small : ∀ l, (l = (andAt c (ordM c)[i]).2.1 ∨ l = (andAt c (ordM c)[i]).2.2) → litM (toM c) l < litM (toM c) (andAt c (ordM c)[i]).1 := fun l hl => by
      have hl0 : 0 ≤ l := by
        have q1 := hg.2.1
        have q2 := hg.2.2
        unfold inR at q1 q2
        rcases hl with e | e <;> omega
      have e0 : litM (toM c) l = L (toM c) (l / 2) + l % 2 := rfl
      rw [ho, e0]
      rcases R.to_cases (v := l / 2) (by omega) with ⟨e1, _⟩ | ⟨d, hd, ed, e1⟩
      · omega
      · rw [e1]
        rcases Nat.lt_or_ge d (c.inputs.length + c.latches.length) with q | q
        · omega
        · obtain ⟨j', rfl⟩ : ∃ j', d = c.inputs.length + c.latches.length + j' := ⟨d - (c.inputs.length + c.latches.length), by omega⟩
          have q3 : j' < (ordM c).length := by have := R.ordLen; omega
          obtain ⟨_, e6⟩ := R.def_and q3
          rw [e6] at ed
          have := R.low hk hl q3 ed
          omega
    have s1 := small _ (.inl rfl)
    have s2 := small _ (.inr rfl)
    rw [gt_nat hi, ← this]
    unfold renAnd
    dsimp only
    rw [ho] at *
    refine ⟨by omega, by omega, by omega⟩
end
end SC
end Go.Proofs.Ytkndegjodnciaaa
end
section
/- shape: Renumber, by entries. -/
set_option linter.unusedVariables false
set_option linter.unusedSimpArgs false
namespace Go.Proofs.Ytkndegjodnciaaa
namespace SC
open Go.Proofs
section
variable {c : Circ} (R : Right c)
include R
theorem Right.lit_le {l : Int} (h : 0 ≤ l) : 0 ≤ litM (toM c) l ∧ litM (toM c) l ≤ 100000 := by
  have e0 : litM (toM c) l = L (toM c) (l / 2) + l % 2 := rfl
  have h1 := R.nDefs_le
  have h2 := R.m1
  rw [e0]
  rcases R.to_cases (v := l / 2) (by omega) with ⟨e, _⟩ | ⟨j, hj, _, e⟩ <;> rw [e] <;> omega
theorem Right.ren_okay (ho : c.Okay) : (renC c).Okay := by
  have le : ∀ {l : Int}, 0 ≤ l → fits (litM (toM c) l) := fun h => by have := R.lit_le h; unfold fits; omega
  refine ⟨by rw [R.ren_lens]; exact ho.lens, fun l hl => ?_, fun x hx => ?_, fun x hx => ?_, ho.symbols⟩
  · obtain ⟨y, hy, rfl⟩ := List.mem_map.1 (show l ∈ c.justice.map (fun l => l.map (litM (toM c))) from hl)
    rw [List.length_map]
    exact ho.just y hy
  · obtain ⟨y, hy, rfl⟩ := List.mem_map.1 (show x ∈ c.latches.map (renLatch (toM c)) from hx)
    obtain ⟨h1, h2, h3⟩ := R.lat hy
    unfold defR at h1
    unfold inR at h2
    refine ⟨le (by omega), le (by omega), ?_⟩
    show fits (if 1 < y.2.2 then litM (toM c) y.2.2 else y.2.2)
    split
    · exact le (by omega)
    · unfold fits; omega
  · obtain ⟨i, hi, rfl⟩ := List.mem_map.1 (show x ∈ (ordM c).map (fun i => renAnd (toM c) (andAt c i)) from hx)
    have ho := R.ord hi
    have hlt : i.toNat < c.ands.length := by omega
    have ha : andAt c i ∈ c.ands := by unfold andAt; simp [hlt]
    obtain ⟨h1, h2, h3⟩ := R.gate ha
    unfold defR at h1
    unfold inR at h2 h3
    have l1 := R.lit_le (l := (andAt c i).2.1) (by omega)
    have l2 := R.lit_le (l := (andAt c i).2.2) (by omega)
    refine ⟨le (by omega), ?_, ?_⟩
    · show fits (max _ _)
      unfold fits
      omega
    · show fits (min _ _)
      unfold fits
      omega
theorem Right.ren_fits (hf : c.Fits) : (renC c).Fits := by
  have e : ∀ (f : Int → Int) (l : List Int), (l.map f).length = l.length := fun f l => List.length_map _
  have ea := R.ren_ands
  refine ⟨?_, ?_, ?_, ?_, ?_, ?_, fun l hl => ?_, ?_, ?_, hf.symbols, hf.comments⟩
  · show (c.inputs.map (litM (toM c))).length * 8 ≤ _; rw [e]; exact hf.inputs
  · show (c.latches.map (renLatch (toM c))).length * 24 ≤ _; rw [List.length_map]; exact hf.latches
  · show (c.outputs.map (litM (toM c))).length * 8 ≤ _; rw [e]; exact hf.outputs
  · show (c.bads.map (litM (toM c))).length * 8 ≤ _; rw [e]; exact hf.bads
  · show (c.constraints.map (litM (toM c))).length * 8 ≤ _; rw [e]; exact hf.constraints
  · show (c.justice.map (fun l => l.map (litM (toM c)))).length * 24 ≤ _; rw [List.length_map]; exact hf.justice
  · obtain ⟨y, hy, rfl⟩ := List.mem_map.1 (show l ∈ c.justice.map (fun l => l.map (litM (toM c))) from hl)
    rw [e]; exact hf.each y hy
  · show (c.fairness.map (litM (toM c))).length * 8 ≤ _; rw [e]; exact hf.fairness
  · rw [ea]; exact hf.ands
theorem Right.ren_sane (hs : c.Sane) : (renC c).Sane := by
  have ea := R.ren_ands
  refine ⟨fun l hl => ?_, hs.kinds, hs.ats, hs.names, hs.texts, ?_⟩
  · obtain ⟨y, hy, rfl⟩ := List.mem_map.1 (show l ∈ c.justice.map (fun l => l.map (litM (toM c))) from hl)
    rw [List.length_map]
    exact hs.just y hy
  · have h := hs.lens
    have e1 : (renC c).inputs.length = c.inputs.length := List.length_map _
    have e2 : (renC c).latches.length = c.latches.length := List.length_map _
    have e3 : (renC c).outputs.length = c.outputs.length := List.length_map _
    have e4 : (renC c).bads.length = c.bads.length := List.length_map _
    have e5 : (renC c).constraints.length = c.constraints.length := List.length_map _
    have e6 : (renC c).justice.length = c.justice.length := List.length_map _
    have e7 : (renC c).fairness.length = c.fairness.length := List.length_map _
    have e8 : (renC c).symbols = c.symbols := rfl
    have e9 : (renC c).comments = c.comments := rfl
    rw [e1, e2, e3, e4, e5, e6, e7, e8, e9, ea]
    exact h
end
/-- A renumbered circuit of its own and its map, as one entry. -/
def renX (base : Nat) (c : Circ) (h js : Hd) (A : Option Addr) (k : Nat) : EntX where
  own := fun b => (∃ i, (cirRows (renC c) h js js (renC c).justice.length i).v.ownBlock = some b) ∨ (Value.slice A (toM c).length k).ownBlock = some b
  ok := fun w => CirOwn w base (renC c) h js ∧ w.ownsRow base 3 1 (.slice A (toM c).length k) (toM c).length ((toM c).flatMap icell)
  lt := fun w H b hb => by
    rcases hb with ⟨i, hi⟩ | hb
    · exact (Rows.lt H.1 hi).2
    · exact (World.ownsRow.lt H.2 b hb).2
  keep := fun w w' S H hc hn => ⟨Rows.chg H.1 hc fun i b hb => hn b (.inl ⟨i, hb⟩), own_chg H.2 hc fun b hb => hn b (.inr hb)⟩
def RenR (c : Circ) (v : Value) (N : Mm) : Prop :=
  ((lookM c).2 ≠ 0 ∧ v = .tuple #[.agg Zc.toArray, .slice none 0 0, nu (lookM c).2] ∧ N = []) ∨
    ((lookM c).2 = 0 ∧ ∃ h' js' A k base, v = .tuple #[.agg (ccells (renC c) h').toArray, .slice A (toM c).length k, nu 0] ∧ N = [.any (renX base c h' js' A k)])
theorem renumber_ok {w : World} {c : Circ} {h js : Hd} (H : CirIn w c h js) (he : (lookM c).2 = 0) : CVN Try.prog 37 [.agg (ccells c h).toArray] w (RenR c) := by
  have R := right_of H.at_ H.sane he
  refine CV.mono (Renumber_cv H.at_ H.sane (R.sumJ H.fits)) fun v w' ⟨hc, hv⟩ => ?_
  rcases hv with ⟨h1, _⟩ | ⟨_, ord, h', js', u, h2, _, rfl, ⟨h4, _⟩, h5⟩
  · exact absurd he h1
  · have e := ordM_eq h2
    subst e
    rw [← flat_icell] at h5
    obtain ⟨A, k, rfl⟩ := row_form' h5
    refine ⟨[.any (renX w.heap.size c h' js' A k)], Mem.join (.one ⟨h4, h5⟩) (.one hc) fun b ⟨E, hE, h1⟩ ⟨F, hF, h2⟩ => ?_, .inr ⟨he, h', js', A, k, _, rfl, rfl⟩⟩
    simp only [List.mem_singleton] at hE hF
    subst hE hF
    have hlt := h2.1
    rcases h1 with ⟨i, hi⟩ | h1
    · have := (Rows.lt h4 hi).1
      omega
    · have := (World.ownsRow.lt h5 b h1).1
      omega
attribute [local irreducible] WC WL WX WS WO OX Does DoesU Enters CV Pure thenQ blockQ retQ Wants retQC GC GL GS GX RdB thenG blockG retG Rd At gt CVN CVM
set_option maxRecDepth 100000
theorem renumber_no {w : World} {c : Circ} {h js : Hd} (H : CirIn w c h js) (he : (lookM c).2 ≠ 0) : CVN Try.prog 37 [.agg (ccells c h).toArray] w (RenR c) := by
  have hord : ∀ Γ, In Γ (.old w none_) → ∀ w', Mem w' Γ → CVN Try.prog 26 [.agg (ccells c h).toArray] w' (OrdR c) := fun Γ hi w' M => OrderG (H.at_.chg (hi.old M)) H.sane
  refine CVN.enterC (t := 51) 204 2 [3, 4] Try.func37 rfl rfl rfl (.inr rfl) rfl ?_
  repeat' (first
      | (apply G_call; eq_refl; eq_refl; (apply hord; (repeat first | exact In.here | apply In.there | apply In.skip)); rintro _ _ (⟨_, rfl, rfl⟩ | ⟨he', A1, k1, rfl, rfl⟩); rotate_left; (exact absurd he' he))
      | (apply GC_seqK; intro K hK)
      | (apply hK; clear hK K)
      | (apply GC_region)
      | (apply GL_nil)
      | (apply thenG_normal)
      | (apply thenG_ret)
      | (apply GC_ret)
      | (apply GC_if_true; eq_refl)
      | (apply retGC2; eq_refl; (repeat first | exact In.here | apply In.there | apply In.skip); eq_refl; eq_refl; eq_refl)
      | (apply GL_on; eq_refl; eq_refl)
      | (apply G_pv; eq_refl; first | exact trivial | omega)
      | (apply G_ldW; eq_refl; (repeat first | exact In.here | apply In.there | apply In.skip); eq_refl)
      | (apply G_cmpT; eq_refl; eq_refl; omega)
      | (apply G_alloc; eq_refl; intro _)
      | (apply G_box; eq_refl; eq_refl; intro _)
      | (apply G_stW; (first | exact wr_p | kernel_rfl); eq_refl; eq_refl; eq_refl; eq_refl; (repeat first | exact Upd.here | apply Upd.there | apply Upd.skip); eq_refl)
      | (apply GX_pure; apply build51_))
  exact ⟨[], (by repeat first | exact Wk.nil | exact Wk.refl | (apply Wk.cons; (focus ((repeat first | exact Rem.here | apply Rem.there | apply Rem.skip); done))) | apply Wk.nilv | apply Wk.last | apply Wk.drop), .inl ⟨he, rfl, rfl⟩⟩
theorem RenumberG {w : World} {c : Circ} {h js : Hd} (H : CirIn w c h js) : CVN Try.prog 37 [.agg (ccells c h).toArray] w (RenR c) := by
  by_cases he : (lookM c).2 = 0
  · exact renumber_ok H he
  · exact renumber_no H he
end SC
end Go.Proofs.Ytkndegjodnciaaa
end
section
/- trestlelaw07: SimNumbers: the walk. -/
set_option linter.unusedVariables false
set_option linter.unusedSimpArgs false
namespace Go.Proofs.Ytkndegjodnciaaa
namespace SC
open Go.Proofs
theorem Rd.ren {Γ : Mm} {base : Nat} {c : Circ} {h js : Hd} {A : Option Addr} {k : Nat} (hi : In Γ (.any (renX base c h js A k))) : Rd Γ icell 1 A (toM c) := fun w M => RowA.own ilen (hi.ok M).2
theorem In.ren {Γ : Mm} {w w0 : World} {base : Nat} {c : Circ} {h js h' js' : Hd} {A : Option Addr} {k : Nat} (H : CirIn w0 c h js) (he : (lookM c).2 = 0) (hi : In Γ (.any (renX base c h' js' A k))) (M : Mem w Γ) : CirIn w (renC c) h' js' := by
  have R := right_of H.at_ H.sane he
  exact ⟨CirOwn.at (hi.ok M).1, R.ren_sane H.sane, R.ren_okay H.okay, R.ren_fits H.fits⟩
attribute [local irreducible] WC WL WX WS WO OX Does DoesU Enters CV Pure thenQ blockQ retQ Wants retQC GC GL GS GX RdB thenG blockG retG Rd At gt CVN CVM
attribute [local irreducible] fam bun renX
set_option maxRecDepth 100000
end SC
end Go.Proofs.Ytkndegjodnciaaa
end
section
/- slices.Equal, slices.EqualFunc; shape's Same. -/
set_option linter.unusedVariables false
set_option linter.unusedSimpArgs false
namespace Go.Proofs.Ytkndegjodnciaaa
namespace SC
open Go.Proofs
attribute [local irreducible] WC WL WX WS WO OX Does DoesU Enters CV Pure thenQ blockQ retQ Wants retQC
set_option maxRecDepth 100000
theorem equalInts_cv {w : World} {A B : Option Addr} {c d : Nat} {l m : List Int} (R : RowA w icell 1 A l) (R' : RowA w icell 1 B m) (hl : l.length ≤ 9223372036854775807) (hm : m.length ≤ 9223372036854775807) :
    CV Try.prog 96 [.slice A l.length c, .slice B m.length d] w fun v w' => v = .bool (decide (l = m)) ∧ Chg w w' none_ := by
  refine enter 26 [4] Try.func96 rfl rfl rfl (by decide) rfl ?_
  by_cases hlm : l.length = m.length
  · have e : (m.length : Int) = l.length := by omega
    repeat' (first
      | (apply WC_seqK; intro K hK)
      | (apply hK; clear hK)
      | (apply WC_block)
      | (apply WC_region)
      | (apply WL_nil)
      | (apply thenQ_normal)
      | (apply WC_skip)
      | (apply WC_if_false; eq_refl)
      | (apply WL_on0; eq_refl)
      | (apply X_pv; eq_refl; first | exact trivial | omega)
      | (apply X_cmpF; eq_refl; eq_refl; omega)
      | (apply X_len; eq_refl))
    refine WC_loop (fun i : Nat => [(0, .slice A l.length c), (1, .slice B m.length d), (12, nu l.length), (13, nu i)]) (fun i W => Chg w W none_ ∧ i ≤ l.length ∧ l.take i = m.take i) (fun i => l.length - i) 0 ⟨rfl, rfl, rfl, rfl, trivial⟩ ⟨Chg.refl _ _, Nat.zero_le _, by simp⟩ ?_
    rintro i w1 ⟨hC1, hi, heq⟩
    rcases Nat.lt_or_ge i l.length with hlt | hge
    · have hltm : i < m.length := by omega
      obtain ⟨p, hp, hpc⟩ := (R.chg hC1).one hlt (v := nu l[i]) rfl
      obtain ⟨q, hq, hqc⟩ := (R'.chg hC1).one hltm (v := nu m[i]) rfl
      have h1 := List.take_succ_eq_append_getElem hlt
      have h2 := List.take_succ_eq_append_getElem hltm
      rw [hp, hq]
      generalize hx : l[i] = x at *
      generalize hy : m[i] = y at *
      repeat' (first
      | (apply WC_seqK; intro K hK)
      | (apply hK; clear hK)
      | (apply WC_block)
      | (apply WC_region)
      | (apply WL_nil)
      | (apply thenQ_normal)
      | (apply WC_skip)
      | (apply WC_if_true; eq_refl)
      | (apply WL_on0; eq_refl)
      | (apply X_pv; eq_refl; first | exact trivial | omega)
      | (apply X_cmpT; eq_refl; eq_refl; omega))
      refine WC_draws [(0, true), (1, true), (2, true), (3, true), (4, true), (5, true), (6, true), (7, true), (8, true)] (fun W => W.cell? (p.add ((i : Int).toNat * 1)) = some (nu x) ∧ W.cell? (q.add ((i : Int).toNat * 1)) = some (nu y)) mixed (by kernel_rfl) (by kernel_rfl) ?_
      have hS : w1.drew.cell? (p.add ((i : Int).toNat * 1)) = some (nu x) ∧ w1.drew.cell? (q.add ((i : Int).toNat * 1)) = some (nu y) := ⟨hpc, hqc⟩
      repeat' (first
      | (apply WC_seqK; intro K hK)
      | (apply hK; clear hK)
      | (apply WC_region)
      | (apply WL_nil)
      | (apply thenQ_normal)
      | (apply thenQ_ret)
      | (apply blockQ_ret)
      | (apply blockQ_normal)
      | (apply WC_ret)
      | (apply WC_skip)
      | (apply WC_if_true; eq_refl)
      | (apply WC_if_false; eq_refl)
      | (apply ret1; eq_refl)
      | (apply WS_nil)
      | (apply WS_next; eq_refl)
      | (apply WO_on0; eq_refl)
      | (apply O_pv; eq_refl; (first | exact trivial | omega); (first | assumption | exact trivial))
      | (apply O_loadC; eq_refl; (first | (intro _ h; exact h) | (intro _ h; exact h.1) | (intro _ h; exact h.2) | (intro _ h; exact h.2.1) | (intro _ h; exact h.2.2) | (intro _ h; exact h.2.2.1) | (intro _ h; exact h.2.2.2)); (first | assumption | exact trivial))
      | (apply O_cmp; eq_refl; eq_refl; (first | assumption | exact trivial); all_goals intro _)
      | (apply O_indexP; eq_refl; eq_refl; omega; omega; (first | assumption | exact trivial))
      | (apply WL_on0; eq_refl)
      | (apply X_pv; eq_refl; first | exact trivial | omega))
      · have e2 : decide (l = m) = false := decide_eq_false fun h => by
          have hxy : x = y := by rw [← hx, ← hy]; simp only [h]
          contradiction
        rw [e2]
        exact ⟨rfl, hC1.dr⟩
      · refine ⟨i + 1, ⟨by first | rfl | (rw [hp]; rfl), by first | rfl | (rw [hq]; rfl), rfl, rfl, trivial⟩, ⟨hC1.dr, hlt, ?_⟩, by omega⟩
        have hxy : x = y := by first | assumption | omega
        rw [h1, h2, heq, hxy]
    · repeat' (first
      | (apply WC_seqK; intro K hK)
      | (apply hK; clear hK)
      | (clear hK; apply hK; clear hK)
      | (apply WC_region)
      | (apply WL_nil)
      | (apply thenQ_normal)
      | (apply thenQ_exit)
      | (apply blockQ_hit)
      | (apply WC_ret)
      | (apply WC_exit)
      | (apply WC_if_false; eq_refl)
      | (apply ret1; eq_refl)
      | (apply WL_on0; eq_refl)
      | (apply X_pv; eq_refl; first | exact trivial | omega)
      | (apply X_cmpF; eq_refl; eq_refl; omega))
      rw [List.take_of_length_le (by omega), List.take_of_length_le (by omega)] at heq
      rw [heq]
      exact ⟨by simp, hC1⟩
  · have e : decide (l = m) = false := decide_eq_false fun h => hlm (by rw [h])
    rw [e]
    repeat' (first
      | (apply WC_seqK; intro K hK)
      | (apply hK; clear hK)
      | (apply WC_region)
      | (apply WL_nil)
      | (apply thenQ_normal)
      | (apply thenQ_ret)
      | (apply WC_ret)
      | (apply WC_if_true; eq_refl)
      | (apply ret1; eq_refl)
      | (apply WL_on0; eq_refl)
      | (apply X_pv; eq_refl; first | exact trivial | omega)
      | (apply X_cmpT; eq_refl; eq_refl; omega)
      | (apply X_len; eq_refl))
    exact ⟨rfl, Chg.refl _ _⟩
theorem equalLatches_cv {w : World} {A B : Option Addr} {c d : Nat} {l m : List Tri} (R : RowA w tcells 3 A l) (R' : RowA w tcells 3 B m) (hl : l.length ≤ 9223372036854775807) (hm : m.length ≤ 9223372036854775807) (hf : ∀ x ∈ l, TriFits x) (hf' : ∀ x ∈ m, TriFits x) :
    CV Try.prog 97 [.slice A l.length c, .slice B m.length d] w fun v w' => v = .bool (decide (l = m)) ∧ Chg w w' none_ := by
  refine enter 26 [4] Try.func97 rfl rfl rfl (by decide) rfl ?_
  by_cases hlm : l.length = m.length
  · have e : (m.length : Int) = l.length := by omega
    repeat' (first
      | (apply WC_seqK; intro K hK)
      | (apply hK; clear hK)
      | (apply WC_block)
      | (apply WC_region)
      | (apply WL_nil)
      | (apply thenQ_normal)
      | (apply WC_skip)
      | (apply WC_if_false; eq_refl)
      | (apply WL_on0; eq_refl)
      | (apply X_pv; eq_refl; first | exact trivial | omega)
      | (apply X_cmpF; eq_refl; eq_refl; omega)
      | (apply X_len; eq_refl))
    refine WC_loop (fun i : Nat => [(0, .slice A l.length c), (1, .slice B m.length d), (12, nu l.length), (13, nu i)]) (fun i W => Chg w W none_ ∧ i ≤ l.length ∧ l.take i = m.take i) (fun i => l.length - i) 0 ⟨rfl, rfl, rfl, rfl, trivial⟩ ⟨Chg.refl _ _, Nat.zero_le _, by simp⟩ ?_
    rintro i w1 ⟨hC1, hi, heq⟩
    rcases Nat.lt_or_ge i l.length with hlt | hge
    · have hltm : i < m.length := by omega
      obtain ⟨p, hp, hpc⟩ := (R.chg hC1) i hlt
      obtain ⟨q, hq, hqc⟩ := (R'.chg hC1) i hltm
      have h1 := List.take_succ_eq_append_getElem hlt
      have h2 := List.take_succ_eq_append_getElem hltm
      have hfx := hf _ (List.getElem_mem hlt)
      have hfy := hf' _ (List.getElem_mem hltm)
      rw [hp, hq]
      generalize hx : l[i] = x at *
      generalize hy : m[i] = y at *
      have hne := run_neq70 hfx hfy
      repeat' (first
      | (apply WC_seqK; intro K hK)
      | (apply hK; clear hK)
      | (apply WC_block)
      | (apply WC_region)
      | (apply WL_nil)
      | (apply thenQ_normal)
      | (apply WC_skip)
      | (apply WC_if_true; eq_refl)
      | (apply WL_on0; eq_refl)
      | (apply X_pv; eq_refl; first | exact trivial | omega)
      | (apply X_cmpT; eq_refl; eq_refl; omega))
      refine WC_draws [(0, true), (1, true), (2, true), (3, true), (4, true), (5, true), (6, true), (7, true), (8, true)] (fun W => (∀ j u, (tcells x)[j]? = some u → W.cell? ((p.add ((i : Int).toNat * 3)).add j) = some u) ∧ (∀ j u, (tcells y)[j]? = some u → W.cell? ((q.add ((i : Int).toNat * 3)).add j) = some u)) mixed (by kernel_rfl) (by kernel_rfl) ?_
      have hS : (∀ j u, (tcells x)[j]? = some u → w1.drew.cell? ((p.add ((i : Int).toNat * 3)).add j) = some u) ∧ (∀ j u, (tcells y)[j]? = some u → w1.drew.cell? ((q.add ((i : Int).toNat * 3)).add j) = some u) := ⟨hpc, hqc⟩
      repeat' (first
      | (apply O_loadAP (tcells x); eq_refl; eq_refl; (intro _ h; exact h.1); assumption)
      | (apply O_loadAP (tcells y); eq_refl; eq_refl; (intro _ h; exact h.2); assumption)
      | (apply O_neqV guard70 hne; eq_refl; eq_refl; assumption; all_goals intro _)
      | (apply WC_seqK; intro K hK)
      | (apply hK; clear hK)
      | (apply WC_region)
      | (apply WL_nil)
      | (apply thenQ_normal)
      | (apply thenQ_ret)
      | (apply blockQ_ret)
      | (apply blockQ_normal)
      | (apply WC_ret)
      | (apply WC_skip)
      | (apply WC_if_true; eq_refl)
      | (apply WC_if_false; eq_refl)
      | (apply ret1; eq_refl)
      | (apply WS_nil)
      | (apply WS_next; eq_refl)
      | (apply WO_on0; eq_refl)
      | (apply O_pv; eq_refl; (first | exact trivial | omega); (first | assumption | exact trivial))
      | (apply O_indexP; eq_refl; eq_refl; omega; omega; (first | assumption | exact trivial))
      | (apply WL_on0; eq_refl)
      | (apply X_pv; eq_refl; first | exact trivial | omega))
      · have e2 : decide (l = m) = false := decide_eq_false fun h => by
          have hxy : x = y := by rw [← hx, ← hy]; simp only [h]
          contradiction
        rw [e2]
        exact ⟨rfl, hC1.dr⟩
      · refine ⟨i + 1, ⟨by first | rfl | (rw [hp]; rfl), by first | rfl | (rw [hq]; rfl), rfl, rfl, trivial⟩, ⟨hC1.dr, hlt, ?_⟩, by omega⟩
        have hxy : x = y := by assumption
        rw [h1, h2, heq, hxy]
    · repeat' (first
      | (apply WC_seqK; intro K hK)
      | (apply hK; clear hK)
      | (clear hK; apply hK; clear hK)
      | (apply WC_region)
      | (apply WL_nil)
      | (apply thenQ_normal)
      | (apply thenQ_exit)
      | (apply blockQ_hit)
      | (apply WC_ret)
      | (apply WC_exit)
      | (apply WC_if_false; eq_refl)
      | (apply ret1; eq_refl)
      | (apply WL_on0; eq_refl)
      | (apply X_pv; eq_refl; first | exact trivial | omega)
      | (apply X_cmpF; eq_refl; eq_refl; omega))
      rw [List.take_of_length_le (by omega), List.take_of_length_le (by omega)] at heq
      rw [heq]
      exact ⟨by simp, hC1⟩
  · have e : decide (l = m) = false := decide_eq_false fun h => hlm (by rw [h])
    rw [e]
    repeat' (first
      | (apply WC_seqK; intro K hK)
      | (apply hK; clear hK)
      | (apply WC_region)
      | (apply WL_nil)
      | (apply thenQ_normal)
      | (apply thenQ_ret)
      | (apply WC_ret)
      | (apply WC_if_true; eq_refl)
      | (apply ret1; eq_refl)
      | (apply WL_on0; eq_refl)
      | (apply X_pv; eq_refl; first | exact trivial | omega)
      | (apply X_cmpT; eq_refl; eq_refl; omega)
      | (apply X_len; eq_refl))
    exact ⟨rfl, Chg.refl _ _⟩
theorem equalAnds_cv {w : World} {A B : Option Addr} {c d : Nat} {l m : List Tri} (R : RowA w tcells 3 A l) (R' : RowA w tcells 3 B m) (hl : l.length ≤ 9223372036854775807) (hm : m.length ≤ 9223372036854775807) (hf : ∀ x ∈ l, TriFits x) (hf' : ∀ x ∈ m, TriFits x) :
    CV Try.prog 98 [.slice A l.length c, .slice B m.length d] w fun v w' => v = .bool (decide (l = m)) ∧ Chg w w' none_ := by
  refine enter 26 [4] Try.func98 rfl rfl rfl (by decide) rfl ?_
  by_cases hlm : l.length = m.length
  · have e : (m.length : Int) = l.length := by omega
    repeat' (first
      | (apply WC_seqK; intro K hK)
      | (apply hK; clear hK)
      | (apply WC_block)
      | (apply WC_region)
      | (apply WL_nil)
      | (apply thenQ_normal)
      | (apply WC_skip)
      | (apply WC_if_false; eq_refl)
      | (apply WL_on0; eq_refl)
      | (apply X_pv; eq_refl; first | exact trivial | omega)
      | (apply X_cmpF; eq_refl; eq_refl; omega)
      | (apply X_len; eq_refl))
    refine WC_loop (fun i : Nat => [(0, .slice A l.length c), (1, .slice B m.length d), (12, nu l.length), (13, nu i)]) (fun i W => Chg w W none_ ∧ i ≤ l.length ∧ l.take i = m.take i) (fun i => l.length - i) 0 ⟨rfl, rfl, rfl, rfl, trivial⟩ ⟨Chg.refl _ _, Nat.zero_le _, by simp⟩ ?_
    rintro i w1 ⟨hC1, hi, heq⟩
    rcases Nat.lt_or_ge i l.length with hlt | hge
    · have hltm : i < m.length := by omega
      obtain ⟨p, hp, hpc⟩ := (R.chg hC1) i hlt
      obtain ⟨q, hq, hqc⟩ := (R'.chg hC1) i hltm
      have h1 := List.take_succ_eq_append_getElem hlt
      have h2 := List.take_succ_eq_append_getElem hltm
      have hfx := hf _ (List.getElem_mem hlt)
      have hfy := hf' _ (List.getElem_mem hltm)
      rw [hp, hq]
      generalize hx : l[i] = x at *
      generalize hy : m[i] = y at *
      have hne := run_neq43 hfx hfy
      repeat' (first
      | (apply WC_seqK; intro K hK)
      | (apply hK; clear hK)
      | (apply WC_block)
      | (apply WC_region)
      | (apply WL_nil)
      | (apply thenQ_normal)
      | (apply WC_skip)
      | (apply WC_if_true; eq_refl)
      | (apply WL_on0; eq_refl)
      | (apply X_pv; eq_refl; first | exact trivial | omega)
      | (apply X_cmpT; eq_refl; eq_refl; omega))
      refine WC_draws [(0, true), (1, true), (2, true), (3, true), (4, true), (5, true), (6, true), (7, true), (8, true)] (fun W => (∀ j u, (tcells x)[j]? = some u → W.cell? ((p.add ((i : Int).toNat * 3)).add j) = some u) ∧ (∀ j u, (tcells y)[j]? = some u → W.cell? ((q.add ((i : Int).toNat * 3)).add j) = some u)) mixed (by kernel_rfl) (by kernel_rfl) ?_
      have hS : (∀ j u, (tcells x)[j]? = some u → w1.drew.cell? ((p.add ((i : Int).toNat * 3)).add j) = some u) ∧ (∀ j u, (tcells y)[j]? = some u → w1.drew.cell? ((q.add ((i : Int).toNat * 3)).add j) = some u) := ⟨hpc, hqc⟩
      repeat' (first
      | (apply O_loadAP (tcells x); eq_refl; eq_refl; (intro _ h; exact h.1); assumption)
      | (apply O_loadAP (tcells y); eq_refl; eq_refl; (intro _ h; exact h.2); assumption)
      | (apply O_neqV guard43 hne; eq_refl; eq_refl; assumption; all_goals intro _)
      | (apply WC_seqK; intro K hK)
      | (apply hK; clear hK)
      | (apply WC_region)
      | (apply WL_nil)
      | (apply thenQ_normal)
      | (apply thenQ_ret)
      | (apply blockQ_ret)
      | (apply blockQ_normal)
      | (apply WC_ret)
      | (apply WC_skip)
      | (apply WC_if_true; eq_refl)
      | (apply WC_if_false; eq_refl)
      | (apply ret1; eq_refl)
      | (apply WS_nil)
      | (apply WS_next; eq_refl)
      | (apply WO_on0; eq_refl)
      | (apply O_pv; eq_refl; (first | exact trivial | omega); (first | assumption | exact trivial))
      | (apply O_indexP; eq_refl; eq_refl; omega; omega; (first | assumption | exact trivial))
      | (apply WL_on0; eq_refl)
      | (apply X_pv; eq_refl; first | exact trivial | omega))
      · have e2 : decide (l = m) = false := decide_eq_false fun h => by
          have hxy : x = y := by rw [← hx, ← hy]; simp only [h]
          contradiction
        rw [e2]
        exact ⟨rfl, hC1.dr⟩
      · refine ⟨i + 1, ⟨by first | rfl | (rw [hp]; rfl), by first | rfl | (rw [hq]; rfl), rfl, rfl, trivial⟩, ⟨hC1.dr, hlt, ?_⟩, by omega⟩
        have hxy : x = y := by assumption
        rw [h1, h2, heq, hxy]
    · repeat' (first
      | (apply WC_seqK; intro K hK)
      | (apply hK; clear hK)
      | (clear hK; apply hK; clear hK)
      | (apply WC_region)
      | (apply WL_nil)
      | (apply thenQ_normal)
      | (apply thenQ_exit)
      | (apply blockQ_hit)
      | (apply WC_ret)
      | (apply WC_exit)
      | (apply WC_if_false; eq_refl)
      | (apply ret1; eq_refl)
      | (apply WL_on0; eq_refl)
      | (apply X_pv; eq_refl; first | exact trivial | omega)
      | (apply X_cmpF; eq_refl; eq_refl; omega))
      rw [List.take_of_length_le (by omega), List.take_of_length_le (by omega)] at heq
      rw [heq]
      exact ⟨by simp, hC1⟩
  · have e : decide (l = m) = false := decide_eq_false fun h => hlm (by rw [h])
    rw [e]
    repeat' (first
      | (apply WC_seqK; intro K hK)
      | (apply hK; clear hK)
      | (apply WC_region)
      | (apply WL_nil)
      | (apply thenQ_normal)
      | (apply thenQ_ret)
      | (apply WC_ret)
      | (apply WC_if_true; eq_refl)
      | (apply ret1; eq_refl)
      | (apply WL_on0; eq_refl)
      | (apply X_pv; eq_refl; first | exact trivial | omega)
      | (apply X_cmpT; eq_refl; eq_refl; omega)
      | (apply X_len; eq_refl))
    exact ⟨rfl, Chg.refl _ _⟩
theorem equalSymbols_cv {w : World} {A B : Option Addr} {c d : Nat} {l m : List Sym} (R : RowA w scells 3 A l) (R' : RowA w scells 3 B m) (hl : l.length ≤ 9223372036854775807) (hm : m.length ≤ 9223372036854775807) (hf : ∀ x ∈ l, SymFits x) (hf' : ∀ x ∈ m, SymFits x) :
    CV Try.prog 99 [.slice A l.length c, .slice B m.length d] w fun v w' => ∃ b, v = .bool b ∧ (b = true ↔ l = m) ∧ Chg w w' none_ := by
  refine enter 26 [4] Try.func99 rfl rfl rfl (by decide) rfl ?_
  by_cases hlm : l.length = m.length
  · have e : (m.length : Int) = l.length := by omega
    repeat' (first
      | (apply WC_seqK; intro K hK)
      | (apply hK; clear hK)
      | (apply WC_block)
      | (apply WC_region)
      | (apply WL_nil)
      | (apply thenQ_normal)
      | (apply WC_skip)
      | (apply WC_if_false; eq_refl)
      | (apply WL_on0; eq_refl)
      | (apply X_pv; eq_refl; first | exact trivial | omega)
      | (apply X_cmpF; eq_refl; eq_refl; omega)
      | (apply X_len; eq_refl))
    refine WC_loop (fun i : Nat => [(0, .slice A l.length c), (1, .slice B m.length d), (12, nu l.length), (13, nu i)]) (fun i W => Chg w W none_ ∧ i ≤ l.length ∧ l.take i = m.take i) (fun i => l.length - i) 0 ⟨rfl, rfl, rfl, rfl, trivial⟩ ⟨Chg.refl _ _, Nat.zero_le _, by simp⟩ ?_
    rintro i w1 ⟨hC1, hi, heq⟩
    rcases Nat.lt_or_ge i l.length with hlt | hge
    · have hltm : i < m.length := by omega
      obtain ⟨p, hp, hpc⟩ := (R.chg hC1) i hlt
      obtain ⟨q, hq, hqc⟩ := (R'.chg hC1) i hltm
      have h1 := List.take_succ_eq_append_getElem hlt
      have h2 := List.take_succ_eq_append_getElem hltm
      have hfx := hf _ (List.getElem_mem hlt)
      have hfy := hf' _ (List.getElem_mem hltm)
      rw [hp, hq]
      generalize hx : l[i] = x at *
      generalize hy : m[i] = y at *
      repeat' (first
      | (apply WC_seqK; intro K hK)
      | (apply hK; clear hK)
      | (apply WC_block)
      | (apply WC_region)
      | (apply WL_nil)
      | (apply thenQ_normal)
      | (apply WC_skip)
      | (apply WC_if_true; eq_refl)
      | (apply WL_on0; eq_refl)
      | (apply X_pv; eq_refl; first | exact trivial | omega)
      | (apply X_cmpT; eq_refl; eq_refl; omega))
      refine WC_draws [(0, true), (1, true), (2, true), (3, true), (4, true), (5, true), (6, true), (7, true), (8, true)] (fun W => (∀ j u, (scells x)[j]? = some u → W.cell? ((p.add ((i : Int).toNat * 3)).add j) = some u) ∧ (∀ j u, (scells y)[j]? = some u → W.cell? ((q.add ((i : Int).toNat * 3)).add j) = some u)) mixed (by kernel_rfl) (by kernel_rfl) ?_
      have hS : (∀ j u, (scells x)[j]? = some u → w1.drew.cell? ((p.add ((i : Int).toNat * 3)).add j) = some u) ∧ (∀ j u, (scells y)[j]? = some u → w1.drew.cell? ((q.add ((i : Int).toNat * 3)).add j) = some u) := ⟨hpc, hqc⟩
      repeat' (first
      | (apply O_loadAP (scells x); eq_refl; eq_refl; (intro _ h; exact h.1); assumption)
      | (apply O_loadAP (scells y); eq_refl; eq_refl; (intro _ h; exact h.2); assumption)
      | (apply O_neqV guard117 (run_neq117 hfx hfy); eq_refl; eq_refl; assumption; all_goals intro _)
      | (apply WC_seqK; intro K hK)
      | (apply hK; clear hK)
      | (apply WC_region)
      | (apply WL_nil)
      | (apply thenQ_normal)
      | (apply thenQ_ret)
      | (apply blockQ_ret)
      | (apply blockQ_normal)
      | (apply WC_ret)
      | (apply WC_skip)
      | (apply WC_if_true; eq_refl)
      | (apply WC_if_false; eq_refl)
      | (apply ret1; eq_refl)
      | (apply WS_nil)
      | (apply WS_next; eq_refl)
      | (apply WO_on0; eq_refl)
      | (apply O_pv; eq_refl; (first | exact trivial | omega); (first | assumption | exact trivial))
      | (apply O_indexP; eq_refl; eq_refl; omega; omega; (first | assumption | exact trivial))
      | (apply WL_on0; eq_refl)
      | (apply X_pv; eq_refl; first | exact trivial | omega))
      · refine ⟨false, rfl, ?_, hC1.dr⟩
        constructor
        · intro h; cases h
        · intro h
          have hxy : x = y := by rw [← hx, ← hy]; simp only [h]
          contradiction
      · refine ⟨i + 1, ⟨by first | rfl | (rw [hp]; rfl), by first | rfl | (rw [hq]; rfl), rfl, rfl, trivial⟩, ⟨hC1.dr, hlt, ?_⟩, by omega⟩
        have hxy : x = y := by assumption
        rw [h1, h2, heq, hxy]
    · repeat' (first
      | (apply WC_seqK; intro K hK)
      | (apply hK; clear hK)
      | (clear hK; apply hK; clear hK)
      | (apply WC_region)
      | (apply WL_nil)
      | (apply thenQ_normal)
      | (apply thenQ_exit)
      | (apply blockQ_hit)
      | (apply WC_ret)
      | (apply WC_exit)
      | (apply WC_if_false; eq_refl)
      | (apply ret1; eq_refl)
      | (apply WL_on0; eq_refl)
      | (apply X_pv; eq_refl; first | exact trivial | omega)
      | (apply X_cmpF; eq_refl; eq_refl; omega))
      rw [List.take_of_length_le (by omega), List.take_of_length_le (by omega)] at heq
      exact ⟨true, rfl, ⟨fun _ => heq, fun _ => rfl⟩, hC1⟩
  · repeat' (first
      | (apply WC_seqK; intro K hK)
      | (apply hK; clear hK)
      | (apply WC_region)
      | (apply WL_nil)
      | (apply thenQ_normal)
      | (apply thenQ_ret)
      | (apply WC_ret)
      | (apply WC_if_true; eq_refl)
      | (apply ret1; eq_refl)
      | (apply WL_on0; eq_refl)
      | (apply X_pv; eq_refl; first | exact trivial | omega)
      | (apply X_cmpT; eq_refl; eq_refl; omega)
      | (apply X_len; eq_refl))
    refine ⟨false, rfl, ⟨fun h => (by cases h), fun h => absurd (by rw [h]) hlm⟩, Chg.refl _ _⟩
theorem equalTexts_cv {w : World} {A B : Option Addr} {c d : Nat} {l m : List ByteArray} (R : RowA w bcell 1 A l) (R' : RowA w bcell 1 B m) (hl : l.length ≤ 9223372036854775807) (hm : m.length ≤ 9223372036854775807) :
    CV Try.prog 100 [.slice A l.length c, .slice B m.length d] w fun v w' => ∃ b, v = .bool b ∧ (b = true ↔ l = m) ∧ Chg w w' none_ := by
  refine enter 26 [4] Try.func100 rfl rfl rfl (by decide) rfl ?_
  by_cases hlm : l.length = m.length
  · have e : (m.length : Int) = l.length := by omega
    repeat' (first
      | (apply WC_seqK; intro K hK)
      | (apply hK; clear hK)
      | (apply WC_block)
      | (apply WC_region)
      | (apply WL_nil)
      | (apply thenQ_normal)
      | (apply WC_skip)
      | (apply WC_if_false; eq_refl)
      | (apply WL_on0; eq_refl)
      | (apply X_pv; eq_refl; first | exact trivial | omega)
      | (apply X_cmpF; eq_refl; eq_refl; omega)
      | (apply X_len; eq_refl))
    refine WC_loop (fun i : Nat => [(0, .slice A l.length c), (1, .slice B m.length d), (12, nu l.length), (13, nu i)]) (fun i W => Chg w W none_ ∧ i ≤ l.length ∧ l.take i = m.take i) (fun i => l.length - i) 0 ⟨rfl, rfl, rfl, rfl, trivial⟩ ⟨Chg.refl _ _, Nat.zero_le _, by simp⟩ ?_
    rintro i w1 ⟨hC1, hi, heq⟩
    rcases Nat.lt_or_ge i l.length with hlt | hge
    · have hltm : i < m.length := by omega
      obtain ⟨p, hp, hpc⟩ := (R.chg hC1) i hlt
      obtain ⟨q, hq, hqc⟩ := (R'.chg hC1) i hltm
      have h1 := List.take_succ_eq_append_getElem hlt
      have h2 := List.take_succ_eq_append_getElem hltm
      rw [hp, hq]
      generalize hx : l[i] = x at *
      generalize hy : m[i] = y at *
      repeat' (first
      | (apply WC_seqK; intro K hK)
      | (apply hK; clear hK)
      | (apply WC_block)
      | (apply WC_region)
      | (apply WL_nil)
      | (apply thenQ_normal)
      | (apply WC_skip)
      | (apply WC_if_true; eq_refl)
      | (apply WL_on0; eq_refl)
      | (apply X_pv; eq_refl; first | exact trivial | omega)
      | (apply X_cmpT; eq_refl; eq_refl; omega))
      refine WC_draws [(0, true), (1, true), (2, true), (3, true), (4, true), (5, true), (6, true), (7, true), (8, true)] (fun W => W.cell? (p.add ((i : Int).toNat * 1)) = some (.string x) ∧ W.cell? (q.add ((i : Int).toNat * 1)) = some (.string y)) mixed (by kernel_rfl) (by kernel_rfl) ?_
      have hS : w1.drew.cell? (p.add ((i : Int).toNat * 1)) = some (.string x) ∧ w1.drew.cell? (q.add ((i : Int).toNat * 1)) = some (.string y) := ⟨hpc 0 (.string x) rfl, hqc 0 (.string y) rfl⟩
      repeat' (first
      | (apply O_neqS; eq_refl; eq_refl; assumption; all_goals intro _)
      | (apply WC_seqK; intro K hK)
      | (apply hK; clear hK)
      | (apply WC_region)
      | (apply WL_nil)
      | (apply thenQ_normal)
      | (apply thenQ_ret)
      | (apply blockQ_ret)
      | (apply blockQ_normal)
      | (apply WC_ret)
      | (apply WC_skip)
      | (apply WC_if_true; eq_refl)
      | (apply WC_if_false; eq_refl)
      | (apply ret1; eq_refl)
      | (apply WS_nil)
      | (apply WS_next; eq_refl)
      | (apply WO_on0; eq_refl)
      | (apply O_pv; eq_refl; (first | exact trivial | omega); (first | assumption | exact trivial))
      | (apply O_loadC; eq_refl; (first | (intro _ h; exact h) | (intro _ h; exact h.1) | (intro _ h; exact h.2) | (intro _ h; exact h.2.1) | (intro _ h; exact h.2.2) | (intro _ h; exact h.2.2.1) | (intro _ h; exact h.2.2.2)); (first | assumption | exact trivial))
      | (apply O_indexP; eq_refl; eq_refl; omega; omega; (first | assumption | exact trivial))
      | (apply WL_on0; eq_refl)
      | (apply X_pv; eq_refl; first | exact trivial | omega))
      · refine ⟨false, rfl, ?_, hC1.dr⟩
        constructor
        · intro h; cases h
        · intro h
          have hxy : x = y := by rw [← hx, ← hy]; simp only [h]
          contradiction
      · refine ⟨i + 1, ⟨by first | rfl | (rw [hp]; rfl), by first | rfl | (rw [hq]; rfl), rfl, rfl, trivial⟩, ⟨hC1.dr, hlt, ?_⟩, by omega⟩
        have hxy : x = y := by assumption
        rw [h1, h2, heq, hxy]
    · repeat' (first
      | (apply WC_seqK; intro K hK)
      | (apply hK; clear hK)
      | (clear hK; apply hK; clear hK)
      | (apply WC_region)
      | (apply WL_nil)
      | (apply thenQ_normal)
      | (apply thenQ_exit)
      | (apply blockQ_hit)
      | (apply WC_ret)
      | (apply WC_exit)
      | (apply WC_if_false; eq_refl)
      | (apply ret1; eq_refl)
      | (apply WL_on0; eq_refl)
      | (apply X_pv; eq_refl; first | exact trivial | omega)
      | (apply X_cmpF; eq_refl; eq_refl; omega))
      rw [List.take_of_length_le (by omega), List.take_of_length_le (by omega)] at heq
      exact ⟨true, rfl, ⟨fun _ => heq, fun _ => rfl⟩, hC1⟩
  · repeat' (first
      | (apply WC_seqK; intro K hK)
      | (apply hK; clear hK)
      | (apply WC_region)
      | (apply WL_nil)
      | (apply thenQ_normal)
      | (apply thenQ_ret)
      | (apply WC_ret)
      | (apply WC_if_true; eq_refl)
      | (apply ret1; eq_refl)
      | (apply WL_on0; eq_refl)
      | (apply X_pv; eq_refl; first | exact trivial | omega)
      | (apply X_cmpT; eq_refl; eq_refl; omega)
      | (apply X_len; eq_refl))
    refine ⟨false, rfl, ⟨fun h => (by cases h), fun h => absurd (by rw [h]) hlm⟩, Chg.refl _ _⟩
end SC
end Go.Proofs.Ytkndegjodnciaaa
end
section
/- slices.EqualFunc at lists of lists; shape's Same. -/
set_option linter.unusedVariables false
set_option linter.unusedSimpArgs false
namespace Go.Proofs.Ytkndegjodnciaaa
namespace SC
open Go.Proofs
attribute [local irreducible] WC WL WX WS WO OX Does DoesU Enters CV Pure thenQ blockQ retQ Wants retQC
set_option maxRecDepth 100000
theorem equalLists_cv {w : World} {A B : Option Addr} {c d : Nat} {l m : List (List Int)} {js ks : Hd} (R : JusAt w A l js) (R' : JusAt w B m ks) (hl : l.length ≤ 9223372036854775807) (hm : m.length ≤ 9223372036854775807)
    (he : ∀ k (hk : k < l.length), RowA w icell 1 (js k).1 l[k]) (he' : ∀ k (hk : k < m.length), RowA w icell 1 (ks k).1 m[k]) (hb : ∀ x ∈ l, x.length ≤ 9223372036854775807) (hb' : ∀ x ∈ m, x.length ≤ 9223372036854775807) :
    CV Try.prog 95 [.slice A l.length c, .slice B m.length d, .func (.func 96) #[] #[]] w fun v w' => ∃ b, v = .bool b ∧ (b = true ↔ l = m) ∧ Chg w w' none_ := by
  refine enter 32 [6] Try.func95 rfl rfl rfl (by decide) rfl ?_
  by_cases hlm : l.length = m.length
  · have e : (m.length : Int) = l.length := by omega
    repeat' (first
      | (apply WC_seqK; intro K hK)
      | (apply hK; clear hK)
      | (apply WC_block)
      | (apply WC_region)
      | (apply WL_nil)
      | (apply thenQ_normal)
      | (apply WC_skip)
      | (apply WC_if_false; eq_refl)
      | (apply WL_on0; eq_refl)
      | (apply X_pv; eq_refl; first | exact trivial | omega)
      | (apply X_cmpF; eq_refl; eq_refl; omega)
      | (apply X_len; eq_refl))
    refine WC_loop (fun i : Nat => [(0, .slice A l.length c), (1, .slice B m.length d), (2, .func (.func 96) #[] #[]), (15, .slice A l.length c), (16, nu l.length), (17, nu i)]) (fun i W => Chg w W none_ ∧ i ≤ l.length ∧ l.take i = m.take i) (fun i => l.length - i) 0 ⟨rfl, rfl, rfl, rfl, rfl, rfl, trivial⟩ ⟨Chg.refl _ _, Nat.zero_le _, by simp⟩ ?_
    rintro i w1 ⟨hC1, hi, heq⟩
    rcases Nat.lt_or_ge i l.length with hlt | hge
    · have hltm : i < m.length := by omega
      obtain ⟨p, hp, hpc⟩ := R i hlt
      obtain ⟨q, hq, hqc⟩ := R' i hltm
      have h1 := List.take_succ_eq_append_getElem hlt
      have h2 := List.take_succ_eq_append_getElem hltm
      have hsi := equalInts_cv (c := (js i).2) (d := (ks i).2) ((he i hlt).chg hC1) ((he' i hltm).chg hC1) (hb _ (List.getElem_mem hlt)) (hb' _ (List.getElem_mem hltm))
      have hpc1 := cel_chg hpc hC1 id
      have hqc1 := cel_chg hqc hC1 id
      rw [hp, hq]
      generalize hx : l[i] = x at *
      generalize hy : m[i] = y at *
      by_cases hxy : x = y
      · rw [decide_eq_true hxy] at hsi
        repeat' (first
      | (apply X_clo (f := 96); eq_refl; eq_refl; exact hsi; rintro _ w3 ⟨rfl, hC3⟩)
      | (apply WC_seqK; intro K hK)
      | (apply hK; clear hK)
      | (apply WC_block)
      | (apply WC_region)
      | (apply WL_nil)
      | (apply thenQ_normal)
      | (apply blockQ_normal)
      | (apply WC_skip)
      | (apply WC_if_true; eq_refl)
      | (apply WC_if_false; eq_refl)
      | (apply WL_on0; eq_refl)
      | (apply X_pv; eq_refl; first | exact trivial | omega)
      | (apply X_loadC; eq_refl; (first | assumption | (apply cel; first | assumption | (apply cel; assumption))))
      | (apply X_cmpT; eq_refl; eq_refl; omega)
      | (apply X_indexP; eq_refl; eq_refl; omega; omega))
        exact ⟨i + 1, ⟨by first | rfl | (rw [hp]; rfl), by first | rfl | (rw [hq]; rfl), rfl, by first | rfl | (rw [hp]; rfl), rfl, rfl, trivial⟩, ⟨hC1.trans hC3 fun _ _ h => h, hlt, by rw [h1, h2, heq, hxy]⟩, by omega⟩
      · rw [decide_eq_false hxy] at hsi
        repeat' (first
      | (apply X_clo (f := 96); eq_refl; eq_refl; exact hsi; rintro _ w3 ⟨rfl, hC3⟩)
      | (apply WC_seqK; intro K hK)
      | (apply hK; clear hK)
      | (apply WC_block)
      | (apply WC_region)
      | (apply WL_nil)
      | (apply thenQ_normal)
      | (apply thenQ_ret)
      | (apply blockQ_ret)
      | (apply WC_ret)
      | (apply WC_skip)
      | (apply WC_if_true; eq_refl)
      | (apply ret1; eq_refl)
      | (apply WL_on0; eq_refl)
      | (apply X_pv; eq_refl; first | exact trivial | omega)
      | (apply X_loadC; eq_refl; (first | assumption | (apply cel; first | assumption | (apply cel; assumption))))
      | (apply X_cmpT; eq_refl; eq_refl; omega)
      | (apply X_indexP; eq_refl; eq_refl; omega; omega))
        refine ⟨false, rfl, ⟨fun h => (by cases h), fun h => absurd ?_ hxy⟩, hC1.trans hC3 fun _ _ h => h⟩
        rw [← hx, ← hy]; simp only [h]
    · repeat' (first
      | (apply WC_seqK; intro K hK)
      | (apply hK; clear hK)
      | (clear hK; apply hK; clear hK)
      | (apply WC_region)
      | (apply WL_nil)
      | (apply thenQ_normal)
      | (apply thenQ_exit)
      | (apply blockQ_hit)
      | (apply WC_ret)
      | (apply WC_exit)
      | (apply WC_if_false; eq_refl)
      | (apply ret1; eq_refl)
      | (apply WL_on0; eq_refl)
      | (apply X_pv; eq_refl; first | exact trivial | omega)
      | (apply X_cmpF; eq_refl; eq_refl; omega))
      rw [List.take_of_length_le (by omega), List.take_of_length_le (by omega)] at heq
      exact ⟨true, rfl, ⟨fun _ => heq, fun _ => rfl⟩, hC1⟩
  · repeat' (first
      | (apply WC_seqK; intro K hK)
      | (apply hK; clear hK)
      | (apply WC_region)
      | (apply WL_nil)
      | (apply thenQ_normal)
      | (apply thenQ_ret)
      | (apply WC_ret)
      | (apply WC_if_true; eq_refl)
      | (apply ret1; eq_refl)
      | (apply WL_on0; eq_refl)
      | (apply X_pv; eq_refl; first | exact trivial | omega)
      | (apply X_cmpT; eq_refl; eq_refl; omega)
      | (apply X_len; eq_refl))
    refine ⟨false, rfl, ⟨fun h => (by cases h), fun h => absurd (by rw [h]) hlm⟩, Chg.refl _ _⟩
theorem Same_cv {w : World} {c d : Circ} {h k js ks : Hd} (H : CirAt w c h js) (H' : CirAt w d k ks) (hc : c.Okay) (hd : d.Okay) : CV Try.prog 35 [.agg (ccells c h).toArray, .agg (ccells d k).toArray] w fun v w' => ∃ b, v = .bool b ∧ (b = true ↔ c = d) ∧ Chg w w' none_ := by
  have hC0 : Chg w ((w.alloc (.cells (ccells c h).toArray 51)).alloc (.cells (ccells d k).toArray 51)) none_ := (Chg.alloc w _ none_).al _
  have hA : ∀ W, Chg ((w.alloc (.cells (ccells c h).toArray 51)).alloc (.cells (ccells d k).toArray 51)) W none_ → Blk W w.heap.size 51 (ccells c h) := fun W hW => (Blk.alloc _ (Blk.new w _ _)).chg hW id
  have hB : ∀ W, Chg ((w.alloc (.cells (ccells c h).toArray 51)).alloc (.cells (ccells d k).toArray 51)) W none_ → Blk W (w.alloc (.cells (ccells c h).toArray 51)).heap.size 51 (ccells d k) := fun W hW => (Blk.new (w.alloc (.cells (ccells c h).toArray 51)) (ccells d k) 51).chg hW id
  have hr := Chg.refl ((w.alloc (.cells (ccells c h).toArray 51)).alloc (.cells (ccells d k).toArray 51)) none_
  have lc : ∀ n : Nat, (n : Int) ∈ c.lens → n ≤ 9223372036854775807 := fun n hn => by have := hc.lens _ hn; omega
  have ld : ∀ n : Nat, (n : Int) ∈ d.lens → n ≤ 9223372036854775807 := fun n hn => by have := hd.lens _ hn; omega
  have s1 : ∀ W, Chg ((w.alloc (.cells (ccells c h).toArray 51)).alloc (.cells (ccells d k).toArray 51)) W none_ → CV Try.prog 96 [.slice (h 1).1 c.inputs.length (h 1).2, .slice (k 1).1 d.inputs.length (k 1).2] W fun v w' => ∃ b, v = .bool b ∧ (b = true ↔ c.inputs = d.inputs) ∧ Chg W w' none_ := fun W hW =>
    (equalInts_cv ((H.chg hC0).chg hW).inputs ((H'.chg hC0).chg hW).inputs (lc _ (by simp [Circ.lens])) (ld _ (by simp [Circ.lens]))).boolI
  have s2 : ∀ W, Chg ((w.alloc (.cells (ccells c h).toArray 51)).alloc (.cells (ccells d k).toArray 51)) W none_ → CV Try.prog 97 [.slice (h 2).1 c.latches.length (h 2).2, .slice (k 2).1 d.latches.length (k 2).2] W fun v w' => ∃ b, v = .bool b ∧ (b = true ↔ c.latches = d.latches) ∧ Chg W w' none_ := fun W hW =>
    (equalLatches_cv ((H.chg hC0).chg hW).latches ((H'.chg hC0).chg hW).latches (lc _ (by simp [Circ.lens])) (ld _ (by simp [Circ.lens])) hc.latches hd.latches).boolI
  have s3 : ∀ W, Chg ((w.alloc (.cells (ccells c h).toArray 51)).alloc (.cells (ccells d k).toArray 51)) W none_ → CV Try.prog 96 [.slice (h 3).1 c.outputs.length (h 3).2, .slice (k 3).1 d.outputs.length (k 3).2] W fun v w' => ∃ b, v = .bool b ∧ (b = true ↔ c.outputs = d.outputs) ∧ Chg W w' none_ := fun W hW =>
    (equalInts_cv ((H.chg hC0).chg hW).outputs ((H'.chg hC0).chg hW).outputs (lc _ (by simp [Circ.lens])) (ld _ (by simp [Circ.lens]))).boolI
  have s4 : ∀ W, Chg ((w.alloc (.cells (ccells c h).toArray 51)).alloc (.cells (ccells d k).toArray 51)) W none_ → CV Try.prog 96 [.slice (h 4).1 c.bads.length (h 4).2, .slice (k 4).1 d.bads.length (k 4).2] W fun v w' => ∃ b, v = .bool b ∧ (b = true ↔ c.bads = d.bads) ∧ Chg W w' none_ := fun W hW =>
    (equalInts_cv ((H.chg hC0).chg hW).bads ((H'.chg hC0).chg hW).bads (lc _ (by simp [Circ.lens])) (ld _ (by simp [Circ.lens]))).boolI
  have s5 : ∀ W, Chg ((w.alloc (.cells (ccells c h).toArray 51)).alloc (.cells (ccells d k).toArray 51)) W none_ → CV Try.prog 96 [.slice (h 5).1 c.constraints.length (h 5).2, .slice (k 5).1 d.constraints.length (k 5).2] W fun v w' => ∃ b, v = .bool b ∧ (b = true ↔ c.constraints = d.constraints) ∧ Chg W w' none_ := fun W hW =>
    (equalInts_cv ((H.chg hC0).chg hW).constraints ((H'.chg hC0).chg hW).constraints (lc _ (by simp [Circ.lens])) (ld _ (by simp [Circ.lens]))).boolI
  have s6 : ∀ W, Chg ((w.alloc (.cells (ccells c h).toArray 51)).alloc (.cells (ccells d k).toArray 51)) W none_ → CV Try.prog 95 [.slice (h 6).1 c.justice.length (h 6).2, .slice (k 6).1 d.justice.length (k 6).2, .func (.func 96) #[] #[]] W fun v w' => ∃ b, v = .bool b ∧ (b = true ↔ c.justice = d.justice) ∧ Chg W w' none_ := fun W hW =>
    equalLists_cv ((H.chg hC0).chg hW).justice ((H'.chg hC0).chg hW).justice (lc _ (by simp [Circ.lens])) (ld _ (by simp [Circ.lens])) ((H.chg hC0).chg hW).each ((H'.chg hC0).chg hW).each hc.just hd.just
  have s7 : ∀ W, Chg ((w.alloc (.cells (ccells c h).toArray 51)).alloc (.cells (ccells d k).toArray 51)) W none_ → CV Try.prog 96 [.slice (h 7).1 c.fairness.length (h 7).2, .slice (k 7).1 d.fairness.length (k 7).2] W fun v w' => ∃ b, v = .bool b ∧ (b = true ↔ c.fairness = d.fairness) ∧ Chg W w' none_ := fun W hW =>
    (equalInts_cv ((H.chg hC0).chg hW).fairness ((H'.chg hC0).chg hW).fairness (lc _ (by simp [Circ.lens])) (ld _ (by simp [Circ.lens]))).boolI
  have s8 : ∀ W, Chg ((w.alloc (.cells (ccells c h).toArray 51)).alloc (.cells (ccells d k).toArray 51)) W none_ → CV Try.prog 98 [.slice (h 8).1 c.ands.length (h 8).2, .slice (k 8).1 d.ands.length (k 8).2] W fun v w' => ∃ b, v = .bool b ∧ (b = true ↔ c.ands = d.ands) ∧ Chg W w' none_ := fun W hW =>
    (equalAnds_cv ((H.chg hC0).chg hW).ands ((H'.chg hC0).chg hW).ands (lc _ (by simp [Circ.lens])) (ld _ (by simp [Circ.lens])) hc.ands hd.ands).boolI
  have s9 : ∀ W, Chg ((w.alloc (.cells (ccells c h).toArray 51)).alloc (.cells (ccells d k).toArray 51)) W none_ → CV Try.prog 99 [.slice (h 9).1 c.symbols.length (h 9).2, .slice (k 9).1 d.symbols.length (k 9).2] W fun v w' => ∃ b, v = .bool b ∧ (b = true ↔ c.symbols = d.symbols) ∧ Chg W w' none_ := fun W hW =>
    equalSymbols_cv ((H.chg hC0).chg hW).symbols ((H'.chg hC0).chg hW).symbols (lc _ (by simp [Circ.lens])) (ld _ (by simp [Circ.lens])) hc.symbols hd.symbols
  have s10 : ∀ W, Chg ((w.alloc (.cells (ccells c h).toArray 51)).alloc (.cells (ccells d k).toArray 51)) W none_ → CV Try.prog 100 [.slice (h 10).1 c.comments.length (h 10).2, .slice (k 10).1 d.comments.length (k 10).2] W fun v w' => ∃ b, v = .bool b ∧ (b = true ↔ c.comments = d.comments) ∧ Chg W w' none_ := fun W hW =>
    equalTexts_cv ((H.chg hC0).chg hW).comments ((H'.chg hC0).chg hW).comments (lc _ (by simp [Circ.lens])) (ld _ (by simp [Circ.lens]))
  refine enter 81 [4] Try.func35 rfl rfl rfl (by decide) rfl ?_
  repeat' (first
      | (apply X_loadR; eq_refl; (apply hA; assumption); eq_refl)
      | (apply X_loadR; eq_refl; (apply hB; assumption); eq_refl)
      | (apply X_fn; eq_refl; (first | (apply s1; assumption) | (apply s2; assumption) | (apply s3; assumption) | (apply s4; assumption) | (apply s5; assumption) | (apply s6; assumption) | (apply s7; assumption) | (apply s8; assumption) | (apply s9; assumption) | (apply s10; assumption)); rintro _ W ⟨b, rfl, hb, hE⟩; have hD := Chg.trans (by assumption) hE (fun _ _ h => h); cases b)
      | (apply WC_seqK; intro K hK)
      | (apply hK; clear hK)
      | (apply WC_region)
      | (apply WL_nil)
      | (apply thenQ_normal)
      | (apply thenQ_ret)
      | (apply WC_ret)
      | (apply WC_skip)
      | (apply WC_if_true; eq_refl)
      | (apply WC_if_false; eq_refl)
      | (apply ret1; eq_refl)
      | (apply WL_on0; eq_refl)
      | (apply WL_onG; eq_refl; eq_refl; eq_refl; eq_refl)
      | (apply WL_noG; eq_refl; eq_refl; eq_refl; eq_refl)
      | (apply X_pv; eq_refl; first | exact trivial | omega)
      | (apply X_field; eq_refl)
      | (apply X_cmp; eq_refl; eq_refl; all_goals intro _)
      | (apply X_box; eq_refl))
  all_goals
    first
    | exact ⟨true, rfl, ⟨fun _ => Circ.same (by first | assumption | omega) ((by assumption : true = true ↔ c.inputs = d.inputs).1 rfl) ((by assumption : true = true ↔ c.latches = d.latches).1 rfl) ((by assumption : true = true ↔ c.outputs = d.outputs).1 rfl) ((by assumption : true = true ↔ c.bads = d.bads).1 rfl) ((by assumption : true = true ↔ c.constraints = d.constraints).1 rfl) ((by assumption : true = true ↔ c.justice = d.justice).1 rfl) ((by assumption : true = true ↔ c.fairness = d.fairness).1 rfl) ((by assumption : true = true ↔ c.ands = d.ands).1 rfl) ((by assumption : true = true ↔ c.symbols = d.symbols).1 rfl) ((by assumption : true = true ↔ c.comments = d.comments).1 rfl), fun _ => rfl⟩, hC0.trans (by assumption) fun _ _ h => h⟩
    | refine ⟨false, rfl, ⟨fun h => (by cases h), fun hcd => ?_⟩, hC0.trans (by assumption) fun _ _ h => h⟩
      first
      | exact absurd (congrArg Circ.max hcd) (by first | assumption | omega)
      | exact absurd ((by assumption : false = true ↔ c.inputs = d.inputs).2 (congrArg Circ.inputs hcd)) (by decide)
      | exact absurd ((by assumption : false = true ↔ c.latches = d.latches).2 (congrArg Circ.latches hcd)) (by decide)
      | exact absurd ((by assumption : false = true ↔ c.outputs = d.outputs).2 (congrArg Circ.outputs hcd)) (by decide)
      | exact absurd ((by assumption : false = true ↔ c.bads = d.bads).2 (congrArg Circ.bads hcd)) (by decide)
      | exact absurd ((by assumption : false = true ↔ c.constraints = d.constraints).2 (congrArg Circ.constraints hcd)) (by decide)
      | exact absurd ((by assumption : false = true ↔ c.justice = d.justice).2 (congrArg Circ.justice hcd)) (by decide)
      | exact absurd ((by assumption : false = true ↔ c.fairness = d.fairness).2 (congrArg Circ.fairness hcd)) (by decide)
      | exact absurd ((by assumption : false = true ↔ c.ands = d.ands).2 (congrArg Circ.ands hcd)) (by decide)
      | exact absurd ((by assumption : false = true ↔ c.symbols = d.symbols).2 (congrArg Circ.symbols hcd)) (by decide)
      | exact absurd ((by assumption : false = true ↔ c.comments = d.comments).2 (congrArg Circ.comments hcd)) (by decide)
end SC
end Go.Proofs.Ytkndegjodnciaaa
end
section
/- trestlebook: SpoilCircuit. -/
set_option linter.unusedVariables false
set_option linter.unusedSimpArgs false
namespace Go.Proofs.Ytkndegjodnciaaa
namespace SC
open Go.Proofs
/-- Rows of which some are still as they were told. -/
def SpRows (W : World) (lo : Nat) (f : Nat → Rw) (D : Nat → Prop) : Prop := ∃ f', Rows W lo f' ∧ ∀ q, D q → f' q = f q
theorem SpRows.mono {W : World} {lo : Nat} {f : Nat → Rw} {D D' : Nat → Prop} (h : SpRows W lo f D) (hD : ∀ q, D' q → D q) : SpRows W lo f D' := by
  obtain ⟨f', hR, hf⟩ := h
  exact ⟨f', hR, fun q hq => hf q (hD q hq)⟩
theorem SpRows.same {W W' : World} {lo : Nat} {f : Nat → Rw} {D : Nat → Prop} (h : SpRows W lo f D) (hc : Chg W W' none_) : SpRows W' lo f D := by
  obtain ⟨f', hR, hf⟩ := h
  exact ⟨f', hR.same hc, hf⟩
theorem SpRows.own {W : World} {lo : Nat} {f : Nat → Rw} {D : Nat → Prop} (h : SpRows W lo f D) {i : Nat} (hi : D i) : (f i).own W lo := by
  obtain ⟨f', hR, hf⟩ := h
  rw [← hf i hi]
  exact hR.own i
theorem SpRows.drop {W W' : World} {lo : Nat} {f : Nat → Rw} {D : Nat → Prop} {T : Nat → Prop} (h : SpRows W lo f D) {i : Nat} (hi : D i) (hc : Chg W W' T) (hT : ∀ k, T k → (f i).v.ownBlock = some k) : SpRows W' lo f (fun q => D q ∧ q ≠ i) := by
  obtain ⟨f', hR, hf⟩ := h
  refine ⟨upd f' i nilRw, hR.put i nilRw hc (fun j k hj hk hh => ?_) (World.ownsRow_nil _ _ _ _) (fun k hk => by cases hk), fun q hq => ?_⟩
  · have := hT k hh
    rw [← hf i hi] at this
    exact hR.apart j i k hj hk this
  · unfold upd
    rw [if_neg hq.2]
    exact hf q hq.1
theorem SpRows.set {W : World} {lo : Nat} {f : Nat → Rw} {D : Nat → Prop} (h : SpRows W lo f D) {i g n cap : Nat} {t : TypeId} {sz : Nat} {xs : List Value} (hi : D i) (hv : f i = ⟨.slice (some ⟨g, 0, none⟩) n cap, t, sz, n, xs⟩) :
    ∃ cur : List Value, Blk W g t cur ∧ n * sz ≤ cur.length ∧ lo ≤ g ∧ ∀ cur' : List Value, cur'.length = cur.length → ∃ xs', SpRows (W.setRow g cur'.toArray) lo (upd f i ⟨.slice (some ⟨g, 0, none⟩) n cap, t, sz, n, xs'⟩) D := by
  obtain ⟨f', hR, hf⟩ := h
  have ho := hR.own i
  rw [hf i hi, hv] at ho
  obtain ⟨cur, h1, h2, h3, h4, h5⟩ := own_set ho
  refine ⟨cur, h1, h3, h4, fun cur' hl => ⟨cur'.take (n * sz), upd f' i ⟨.slice (some ⟨g, 0, none⟩) n cap, t, sz, n, cur'.take (n * sz)⟩, hR.put i _ (Chg.setRow W g cur'.toArray (S := fun k => k = g) rfl) (fun j k hj hk hh => ?_) (h5 cur' hl) (fun k hk => ?_), fun q hq => ?_⟩⟩
  · have : (f' i).v.ownBlock = some k := by rw [hf i hi, hv]; simp [Value.ownBlock, hh]
    exact hR.apart j i k hj hk this
  · left
    rw [hf i hi, hv]
    exact hk
  · unfold upd
    split
    · rfl
    · exact hf q hq
theorem upd_updM (f : Nat → Rw) (i : Nat) (r r' : Rw) : upd (upd f i r) i r' = upd f i r' := by
  funext j
  unfold upd
  split <;> rfl
theorem upd_at (f : Nat → Rw) (i : Nat) (r : Rw) : upd f i r i = r := by unfold upd; rw [if_pos rfl]
theorem SpRows.back {W : World} {lo : Nat} {f : Nat → Rw} {D : Nat → Prop} {i : Nat} {r : Rw} (h : SpRows W lo (upd f i r) D) : SpRows W lo f (fun q => D q ∧ q ≠ i) := by
  obtain ⟨f', hR, hf⟩ := h
  exact ⟨f', hR, fun q hq => by rw [hf q hq.1]; unfold upd; rw [if_neg hq.2]⟩
/-- How far a circuit is spoilt. -/
structure SpSt (w W : World) (lo : Nat) (T : Nat → Prop) (b : Nat) (c : Circ) (h : Hd) (f : Nat → Rw) (D : Nat → Prop) : Prop where
  chg : Chg w W T
  box : Blk W b 51 (ccells c h)
  rows : SpRows W lo f D
theorem SpSt.spoil {w W W' : World} {lo b : Nat} {T : Nat → Prop} {c : Circ} {h : Hd} {f : Nat → Rw} {D : Nat → Prop} (S : SpSt w W lo T b c h f D) (hb : ∀ i k, (f i).v.ownBlock = some k → T k ∧ k < b) {i : Nat} (hD : D i) (hc : Chg W W' (fun k => (f i).v.ownBlock = some k)) : SpSt w W' lo T b c h f (fun q => D q ∧ q ≠ i) :=
  ⟨S.chg.trans hc fun k hk hh => (hb i k hh).1, S.box.chg hc fun hh => by have := (hb i b hh).2; omega, S.rows.drop hD hc fun _ h => h⟩
theorem SpSt.mono {w W : World} {lo b : Nat} {T : Nat → Prop} {c : Circ} {h : Hd} {f : Nat → Rw} {D D' : Nat → Prop} (S : SpSt w W lo T b c h f D) (hD : ∀ q, D' q → D q) : SpSt w W lo T b c h f D' := ⟨S.chg, S.box, S.rows.mono hD⟩
theorem splice_lenP (cs vs : List Value) (o : Nat) (h : o + vs.length ≤ cs.length) : (splice cs o vs).length = cs.length := by
  unfold splice
  simp only [List.length_append, List.length_take, List.length_drop]
  omega
attribute [local irreducible] WC WL WX WS WO OX Does DoesU Enters CV Pure thenQ blockQ retQ Wants retQC
set_option maxRecDepth 100000
theorem spoilCircuit_cv {w : World} {lo : Nat} {c : Circ} {h js : Hd} {mark : Int} (H : CirOwn w lo c h js) (hf : c.Okay) :
    CV Try.prog 36 [.agg (ccells c h).toArray, nu mark] w fun v w' => Chg w w' (fun k => ∃ i, (cirRows c h js js c.justice.length i).v.ownBlock = some k) := by
  have hb : ∀ i k, (cirRows c h js js c.justice.length i).v.ownBlock = some k → (∃ i, (cirRows c h js js c.justice.length i).v.ownBlock = some k) ∧ k < w.heap.size := fun i k hk => ⟨⟨i, hk⟩, (H.lt hk).2⟩
  have hS0 : SpSt w (w.alloc (.cells (ccells c h).toArray 51)) lo (fun k => ∃ i, (cirRows c h js js c.justice.length i).v.ownBlock = some k) w.heap.size c h (cirRows c h js js c.justice.length) (fun _ => True) :=
    ⟨Chg.alloc w _ _, Blk.new w _ _, ⟨_, H.same (Chg.alloc w _ none_), fun _ _ => rfl⟩⟩
  have hlens := hf.lens
  simp only [Circ.lens, List.mem_cons, List.not_mem_nil, or_false] at hlens
  have k2 := hlens _ (.inr (.inl rfl))
  have k6 := hlens _ (.inr (.inr (.inr (.inr (.inr (.inl rfl))))))
  have k8 := hlens _ (.inr (.inr (.inr (.inr (.inr (.inr (.inr (.inl rfl))))))))
  have k9 := hlens _ (.inr (.inr (.inr (.inr (.inr (.inr (.inr (.inr (.inl rfl)))))))))
  have k10 := hlens _ (.inr (.inr (.inr (.inr (.inr (.inr (.inr (.inr (.inr rfl)))))))))
  clear hlens
  refine enter 92 [] Try.func36 rfl rfl rfl (by decide) rfl ?_
  have hbox0 := hS0.box
  repeat' (first
      | (apply X_fn; eq_refl; (exact spoil_cv (hS0.rows.own (i := 1) trivial)); intro v1 w1 hE1)
      | (apply WC_seqK; intro K hK)
      | (apply hK; clear hK)
      | (apply WC_region)
      | (apply WL_nil)
      | (apply thenQ_normal)
      | (apply WL_on0; eq_refl)
      | (apply X_pv; eq_refl; first | exact trivial | omega)
      | (apply X_field; eq_refl)
      | (apply X_loadR; eq_refl; (first | assumption | (apply Blk.alloc; assumption) | apply Blk.new | apply Blk.newA | (apply Blk.alloc; first | apply Blk.newA | (apply Blk.alloc; first | assumption | apply Blk.newA))); eq_refl)
      | (apply X_box; eq_refl))
  have hS1 := hS0.spoil hb (i := 1) trivial hE1
  have hbox1 := hS1.box
  clear hS0 hbox0 hE1
  repeat' (first
      | (apply X_fn; eq_refl; (exact spoil_cv (hS1.rows.own (i := 3) ⟨trivial, by decide⟩)); intro v2 w2 hE2)
      | (apply WC_seqK; intro K hK)
      | (apply hK; clear hK)
      | (apply WC_region)
      | (apply WL_nil)
      | (apply thenQ_normal)
      | (apply WL_on0; eq_refl)
      | (apply X_pv; eq_refl; first | exact trivial | omega)
      | (apply X_field; eq_refl)
      | (apply X_loadR; eq_refl; (first | assumption | (apply Blk.alloc; assumption) | apply Blk.new | apply Blk.newA | (apply Blk.alloc; first | apply Blk.newA | (apply Blk.alloc; first | assumption | apply Blk.newA))); eq_refl))
  have hS2 := (hS1.spoil hb (i := 3) ⟨trivial, by decide⟩ hE2).mono (D' := fun q => q ≠ 1 ∧ q ≠ 3) fun q hq => ⟨⟨trivial, hq.1⟩, hq.2⟩
  have hbox2 := hS2.box
  clear hS1 hbox1 hE2
  repeat' (first
      | (apply X_fn; eq_refl; (exact spoil_cv (hS2.rows.own (i := 4) (by decide))); intro v3 w3 hE3)
      | (apply WC_seqK; intro K hK)
      | (apply hK; clear hK)
      | (apply WC_region)
      | (apply WL_nil)
      | (apply thenQ_normal)
      | (apply WL_on0; eq_refl)
      | (apply X_pv; eq_refl; first | exact trivial | omega)
      | (apply X_field; eq_refl)
      | (apply X_loadR; eq_refl; (first | assumption | (apply Blk.alloc; assumption) | apply Blk.new | apply Blk.newA | (apply Blk.alloc; first | apply Blk.newA | (apply Blk.alloc; first | assumption | apply Blk.newA))); eq_refl))
  have hS3 := (hS2.spoil hb (i := 4) (by decide) hE3).mono (D' := fun q => q ≠ 1 ∧ q ≠ 3 ∧ q ≠ 4) fun q hq => ⟨⟨hq.1, hq.2.1⟩, hq.2.2⟩
  have hbox3 := hS3.box
  clear hS2 hbox2 hE3
  repeat' (first
      | (apply X_fn; eq_refl; (exact spoil_cv (hS3.rows.own (i := 5) (by decide))); intro v4 w4 hE4)
      | (apply WC_seqK; intro K hK)
      | (apply hK; clear hK)
      | (apply WC_region)
      | (apply WL_nil)
      | (apply thenQ_normal)
      | (apply WL_on0; eq_refl)
      | (apply X_pv; eq_refl; first | exact trivial | omega)
      | (apply X_field; eq_refl)
      | (apply X_loadR; eq_refl; (first | assumption | (apply Blk.alloc; assumption) | apply Blk.new | apply Blk.newA | (apply Blk.alloc; first | apply Blk.newA | (apply Blk.alloc; first | assumption | apply Blk.newA))); eq_refl))
  have hS4 := (hS3.spoil hb (i := 5) (by decide) hE4).mono (D' := fun q => q ≠ 1 ∧ q ≠ 3 ∧ q ≠ 4 ∧ q ≠ 5) fun q hq => ⟨⟨hq.1, hq.2.1, hq.2.2.1⟩, hq.2.2.2⟩
  have hbox4 := hS4.box
  clear hS3 hbox3 hE4
  repeat' (first
      | (apply X_fn; eq_refl; (exact spoil_cv (hS4.rows.own (i := 7) (by decide))); intro v5 w5 hE5)
      | (apply WC_seqK; intro K hK)
      | (apply hK; clear hK)
      | (apply WC_block)
      | (apply WC_region)
      | (apply WL_nil)
      | (apply thenQ_normal)
      | (apply WL_on0; eq_refl)
      | (apply X_pv; eq_refl; first | exact trivial | omega)
      | (apply X_loadR; eq_refl; (first | assumption | (apply Blk.alloc; assumption) | apply Blk.new | apply Blk.newA | (apply Blk.alloc; first | apply Blk.newA | (apply Blk.alloc; first | assumption | apply Blk.newA))); eq_refl))
  have hS5 := (hS4.spoil hb (i := 7) (by decide) hE5).mono (D' := fun q => q = 2 ∨ q = 6 ∨ q = 8 ∨ q = 9 ∨ q = 10 ∨ 11 + 0 ≤ q) fun q hq => ⟨⟨by omega, by omega, by omega, by omega⟩, by omega⟩
  clear hS4 hbox4 hE5
  refine WC_loop (fun i : Nat => [(1, nu mark), (2, pt w.heap.size), (4, nu i)]) (fun i W => SpSt w W lo (fun k => ∃ i, (cirRows c h js js c.justice.length i).v.ownBlock = some k) w.heap.size c h (cirRows c h js js c.justice.length) (fun q => q = 2 ∨ q = 6 ∨ q = 8 ∨ q = 9 ∨ q = 10 ∨ 11 + i ≤ q) ∧ i ≤ c.justice.length) (fun i => c.justice.length - i) 0 ⟨rfl, rfl, rfl, trivial⟩ ⟨hS5, Nat.zero_le _⟩ ?_
  clear hS5 w5
  rintro i w5 ⟨hS5, hi5⟩
  have hbox5 := hS5.box
  rcases Nat.lt_or_ge i c.justice.length with hlt | hge
  · have h6 := hS5.rows.own (i := 6) (.inr (.inl rfl))
    have hj := hS5.rows.own (i := i + 11) (by omega)
    simp only [Rw.own, cirRows, if_pos hlt] at hj
    have hd : c.justice.getD i [] = c.justice[i] := by simp [hlt]
    rw [hd] at hj
    obtain ⟨p, hp, hpc⟩ : ∃ p, (h 6).1 = some p ∧ w5.cell? (p.add ((i : Int).toNat * 1)) = some (.slice (js i).1 c.justice[i].length (js i).2) := by
      simp only [Rw.own, cirRows] at h6
      rcases h6.2 with ⟨hv, hn⟩ | ⟨g, cap, cur, hv, hb, hg, rest⟩
      · omega
      · simp only [slc, Value.slice.injEq] at hv
        refine ⟨⟨g, 0, none⟩, hv.1, ?_⟩
        have := h6.cells (g := g) (by simp [slc, hv.1, Value.ownBlock]) i (slc js i c.justice[i].length) (by simp [hlt])
        rw [show (i : Int).toNat * 1 = i by omega]
        exact this
    have e6 : (ccells c h)[0 + 6]? = some (.slice (some p) c.justice.length (h 6).2) := by rw [← hp]; rfl
    repeat' (first
      | (apply X_loadR; eq_refl; exact hbox5; exact e6)
      | (apply X_fn; eq_refl; (exact spoil_cv hj); intro v6 w6 hE6)
      | (apply WC_seqK; intro K hK)
      | (apply hK; clear hK)
      | (apply WC_block)
      | (apply WC_region)
      | (apply WL_nil)
      | (apply thenQ_normal)
      | (apply blockQ_normal)
      | (apply WC_skip)
      | (apply WC_if_true; eq_refl)
      | (apply WL_on0; eq_refl)
      | (apply X_pv; eq_refl; first | exact trivial | omega)
      | (apply X_field; eq_refl)
      | (apply X_loadC; eq_refl; (first | assumption | (apply cel; first | assumption | (apply cel; assumption))))
      | (apply X_cmpT; eq_refl; eq_refl; omega)
      | (apply X_len; eq_refl)
      | (apply X_indexP; eq_refl; eq_refl; omega; omega))
    have hE6' : Chg w5 w6 (fun k => (cirRows c h js js c.justice.length (i + 11)).v.ownBlock = some k) := hE6.mono fun k hk => by
      simp only [cirRows, if_pos hlt, hd]
      exact hk
    exact ⟨i + 1, ⟨rfl, rfl, rfl, trivial⟩, ⟨(hS5.spoil hb (i := i + 11) (by omega) hE6').mono fun q hq => by omega, hlt⟩, by omega⟩
  have hS : SpSt w w5 lo (fun k => ∃ i, (cirRows c h js js c.justice.length i).v.ownBlock = some k) w.heap.size c h (cirRows c h js js c.justice.length) (fun q => q = 2 ∨ q = 8 ∨ q = 9 ∨ q = 10) := hS5.mono fun q hq => by omega
  clear hS5
  repeat' (first
      | (apply WC_seqK; intro K hK)
      | (apply hK; clear hK)
      | (clear hK; apply hK; clear hK)
      | (apply WC_block)
      | (apply WC_region)
      | (apply WL_nil)
      | (apply thenQ_normal)
      | (apply thenQ_exit)
      | (apply blockQ_hit)
      | (apply WC_exit)
      | (apply WC_if_false; eq_refl)
      | (apply WL_on0; eq_refl)
      | (apply X_pv; eq_refl; first | exact trivial | omega)
      | (apply X_field; eq_refl)
      | (apply X_loadR; eq_refl; (first | assumption | (apply Blk.alloc; assumption) | apply Blk.new | apply Blk.newA | (apply Blk.alloc; first | apply Blk.newA | (apply Blk.alloc; first | assumption | apply Blk.newA))); eq_refl)
      | (apply X_cmpF; eq_refl; eq_refl; omega)
      | (apply X_len; eq_refl))
  refine WC_loop (fun i : Nat => [(1, nu mark), (2, pt w.heap.size), (5, nu i)]) (fun i W => (∃ xs, SpSt w W lo (fun k => ∃ i, (cirRows c h js js c.justice.length i).v.ownBlock = some k) w.heap.size c h (upd (cirRows c h js js c.justice.length) 2 ⟨slc h 2 c.latches.length, 70, 3, c.latches.length, xs⟩) (fun q => q = 2 ∨ q = 8 ∨ q = 9 ∨ q = 10)) ∧ i ≤ c.latches.length) (fun i => c.latches.length - i) 0 ⟨rfl, rfl, rfl, trivial⟩ ⟨⟨c.latches.flatMap tcells, hS.chg, hS.box, by
    rw [show upd (cirRows c h js js c.justice.length) 2 ⟨slc h 2 c.latches.length, 70, 3, c.latches.length, c.latches.flatMap tcells⟩ = cirRows c h js js c.justice.length by funext q; unfold upd; split <;> rename_i e; (subst e; rfl); rfl]
    exact hS.rows⟩, Nat.zero_le _⟩ ?_
  clear hS hge hi5 hbox5
  rintro i w5 ⟨⟨xs, hS⟩, hi5⟩
  have hbox5 := hS.box
  rcases Nat.lt_or_ge i c.latches.length with hlt | hge
  · have ho := hS.rows.own (i := 2) (by omega)
    rw [upd_at] at ho
    obtain ⟨g, cap, hv⟩ : ∃ g cap, slc h 2 c.latches.length = .slice (some ⟨g, 0, none⟩) c.latches.length cap := by
      rcases ho.2 with ⟨_, hn⟩ | ⟨g, cap, cur, hv, _⟩
      · have : c.latches.length = 0 := hn
        omega
      · exact ⟨g, cap, hv⟩
    have e6 : (ccells c h)[0 + 2]? = some (.slice (some ⟨g, 0, none⟩) c.latches.length cap) := by rw [← hv]; rfl
    obtain ⟨cur, hB, hcl, hlo, hset⟩ := hS.rows.set (i := 2) (g := g) (n := c.latches.length) (cap := cap) (t := 70) (sz := 3) (xs := xs) (by omega) (by rw [upd_at, hv])
    have hgb := hb 2 g (by show (slc h 2 c.latches.length).ownBlock = some g; rw [hv]; rfl)
    repeat' (first
      | (apply X_loadR; eq_refl; exact hbox5; exact e6)
      | (apply WC_seqK; intro K hK)
      | (apply hK; clear hK)
      | (apply WC_block)
      | (apply WC_region)
      | (apply WL_nil)
      | (apply thenQ_normal)
      | (apply WC_skip)
      | (apply WC_if_true; eq_refl)
      | (apply WL_on0; eq_refl)
      | (apply X_pv; eq_refl; first | exact trivial | omega)
      | (apply X_field; eq_refl)
      | (apply X_cmpT; eq_refl; eq_refl; omega)
      | (apply X_len; eq_refl)
      | (apply X_index; eq_refl; eq_refl; omega; omega)
      | (apply X_pure; apply build70_0 <;> eq_refl))
    refine X_doesU (does_storeA (t1 := 70) (vs := [nu mark, nu 0, nu 0]) (o := 0 + (i : Int).toNat * 3) (b := g) (by eq_refl) (by eq_refl) hB rfl (by show 0 + (i : Int).toNat * 3 + 3 ≤ _; omega) (by simp [Value.oneCell'])) ?_
    have hcc : Chg w5 _ (fun k => k = g) := Chg.setRow w5 g (splice cur (0 + (i : Int).toNat * 3) [nu mark, nu 0, nu 0]).toArray rfl
    repeat' (first
      | (apply hK; clear hK)
      | (apply WC_region)
      | (apply WL_nil)
      | (apply thenQ_normal)
      | (apply blockQ_normal)
      | (apply WL_on0; eq_refl)
      | (apply X_pv; eq_refl; first | exact trivial | omega))
    refine ⟨i + 1, ⟨rfl, rfl, rfl, trivial⟩, ⟨?_, hlt⟩, by omega⟩
    obtain ⟨xs', hS'⟩ := hset (splice cur (0 + (i : Int).toNat * 3) [nu mark, nu 0, nu 0]) (splice_lenP cur [nu mark, nu 0, nu 0] _ (by show 0 + (i : Int).toNat * 3 + 3 ≤ _; omega))
    rw [upd_updM, ← hv] at hS'
    exact ⟨xs', hS.chg.trans hcc fun k hk hh => by rw [hh]; exact hgb.1, hS.box.chg hcc (by omega), hS'⟩
  have hS : SpSt w w5 lo (fun k => ∃ i, (cirRows c h js js c.justice.length i).v.ownBlock = some k) w.heap.size c h (cirRows c h js js c.justice.length) (fun q => q = 8 ∨ q = 9 ∨ q = 10) := ⟨hS.chg, hS.box, hS.rows.back.mono fun q hq => by first | exact hq.elim | omega⟩
  repeat' (first
      | (apply WC_seqK; intro K hK)
      | (apply hK; clear hK)
      | (clear hK; apply hK; clear hK)
      | (apply WC_block)
      | (apply WC_region)
      | (apply WL_nil)
      | (apply thenQ_normal)
      | (apply thenQ_exit)
      | (apply blockQ_hit)
      | (apply WC_exit)
      | (apply WC_if_false; eq_refl)
      | (apply WL_on0; eq_refl)
      | (apply X_pv; eq_refl; first | exact trivial | omega)
      | (apply X_field; eq_refl)
      | (apply X_loadR; eq_refl; (first | assumption | (apply Blk.alloc; assumption) | apply Blk.new | apply Blk.newA | (apply Blk.alloc; first | apply Blk.newA | (apply Blk.alloc; first | assumption | apply Blk.newA))); eq_refl)
      | (apply X_cmpF; eq_refl; eq_refl; omega)
      | (apply X_len; eq_refl))
  refine WC_loop (fun i : Nat => [(1, nu mark), (2, pt w.heap.size), (6, nu i)]) (fun i W => (∃ xs, SpSt w W lo (fun k => ∃ i, (cirRows c h js js c.justice.length i).v.ownBlock = some k) w.heap.size c h (upd (cirRows c h js js c.justice.length) 8 ⟨slc h 8 c.ands.length, 43, 3, c.ands.length, xs⟩) (fun q => q = 8 ∨ q = 9 ∨ q = 10)) ∧ i ≤ c.ands.length) (fun i => c.ands.length - i) 0 ⟨rfl, rfl, rfl, trivial⟩ ⟨⟨c.ands.flatMap tcells, hS.chg, hS.box, by
    rw [show upd (cirRows c h js js c.justice.length) 8 ⟨slc h 8 c.ands.length, 43, 3, c.ands.length, c.ands.flatMap tcells⟩ = cirRows c h js js c.justice.length by funext q; unfold upd; split <;> rename_i e; (subst e; rfl); rfl]
    exact hS.rows⟩, Nat.zero_le _⟩ ?_
  clear hS hge hi5 hbox5
  rintro i w5 ⟨⟨xs, hS⟩, hi5⟩
  have hbox5 := hS.box
  rcases Nat.lt_or_ge i c.ands.length with hlt | hge
  · have ho := hS.rows.own (i := 8) (by omega)
    rw [upd_at] at ho
    obtain ⟨g, cap, hv⟩ : ∃ g cap, slc h 8 c.ands.length = .slice (some ⟨g, 0, none⟩) c.ands.length cap := by
      rcases ho.2 with ⟨_, hn⟩ | ⟨g, cap, cur, hv, _⟩
      · have : c.ands.length = 0 := hn
        omega
      · exact ⟨g, cap, hv⟩
    have e6 : (ccells c h)[0 + 8]? = some (.slice (some ⟨g, 0, none⟩) c.ands.length cap) := by rw [← hv]; rfl
    obtain ⟨cur, hB, hcl, hlo, hset⟩ := hS.rows.set (i := 8) (g := g) (n := c.ands.length) (cap := cap) (t := 43) (sz := 3) (xs := xs) (by omega) (by rw [upd_at, hv])
    have hgb := hb 8 g (by show (slc h 8 c.ands.length).ownBlock = some g; rw [hv]; rfl)
    repeat' (first
      | (apply X_loadR; eq_refl; exact hbox5; exact e6)
      | (apply WC_seqK; intro K hK)
      | (apply hK; clear hK)
      | (apply WC_block)
      | (apply WC_region)
      | (apply WL_nil)
      | (apply thenQ_normal)
      | (apply WC_skip)
      | (apply WC_if_true; eq_refl)
      | (apply WL_on0; eq_refl)
      | (apply X_pv; eq_refl; first | exact trivial | omega)
      | (apply X_field; eq_refl)
      | (apply X_cmpT; eq_refl; eq_refl; omega)
      | (apply X_len; eq_refl)
      | (apply X_index; eq_refl; eq_refl; omega; omega)
      | (apply X_pure; apply build43_0 <;> eq_refl))
    refine X_doesU (does_storeA (t1 := 43) (vs := [nu mark, nu 0, nu 0]) (o := 0 + (i : Int).toNat * 3) (b := g) (by eq_refl) (by eq_refl) hB rfl (by show 0 + (i : Int).toNat * 3 + 3 ≤ _; omega) (by simp [Value.oneCell'])) ?_
    have hcc : Chg w5 _ (fun k => k = g) := Chg.setRow w5 g (splice cur (0 + (i : Int).toNat * 3) [nu mark, nu 0, nu 0]).toArray rfl
    repeat' (first
      | (apply hK; clear hK)
      | (apply WC_region)
      | (apply WL_nil)
      | (apply thenQ_normal)
      | (apply blockQ_normal)
      | (apply WL_on0; eq_refl)
      | (apply X_pv; eq_refl; first | exact trivial | omega))
    refine ⟨i + 1, ⟨rfl, rfl, rfl, trivial⟩, ⟨?_, hlt⟩, by omega⟩
    obtain ⟨xs', hS'⟩ := hset (splice cur (0 + (i : Int).toNat * 3) [nu mark, nu 0, nu 0]) (splice_lenP cur [nu mark, nu 0, nu 0] _ (by show 0 + (i : Int).toNat * 3 + 3 ≤ _; omega))
    rw [upd_updM, ← hv] at hS'
    exact ⟨xs', hS.chg.trans hcc fun k hk hh => by rw [hh]; exact hgb.1, hS.box.chg hcc (by omega), hS'⟩
  have hS : SpSt w w5 lo (fun k => ∃ i, (cirRows c h js js c.justice.length i).v.ownBlock = some k) w.heap.size c h (cirRows c h js js c.justice.length) (fun q => q = 9 ∨ q = 10) := ⟨hS.chg, hS.box, hS.rows.back.mono fun q hq => by first | exact hq.elim | omega⟩
  repeat' (first
      | (apply WC_seqK; intro K hK)
      | (apply hK; clear hK)
      | (clear hK; apply hK; clear hK)
      | (apply WC_block)
      | (apply WC_region)
      | (apply WL_nil)
      | (apply thenQ_normal)
      | (apply thenQ_exit)
      | (apply blockQ_hit)
      | (apply WC_exit)
      | (apply WC_if_false; eq_refl)
      | (apply WL_on0; eq_refl)
      | (apply X_pv; eq_refl; first | exact trivial | omega)
      | (apply X_field; eq_refl)
      | (apply X_loadR; eq_refl; (first | assumption | (apply Blk.alloc; assumption) | apply Blk.new | apply Blk.newA | (apply Blk.alloc; first | apply Blk.newA | (apply Blk.alloc; first | assumption | apply Blk.newA))); eq_refl)
      | (apply X_cmpF; eq_refl; eq_refl; omega)
      | (apply X_len; eq_refl))
  refine WC_loop (fun i : Nat => [(1, nu mark), (2, pt w.heap.size), (7, nu i)]) (fun i W => (∃ xs, SpSt w W lo (fun k => ∃ i, (cirRows c h js js c.justice.length i).v.ownBlock = some k) w.heap.size c h (upd (cirRows c h js js c.justice.length) 9 ⟨slc h 9 c.symbols.length, 117, 3, c.symbols.length, xs⟩) (fun q => q = 9 ∨ q = 10)) ∧ i ≤ c.symbols.length) (fun i => c.symbols.length - i) 0 ⟨rfl, rfl, rfl, trivial⟩ ⟨⟨c.symbols.flatMap scells, hS.chg, hS.box, by
    rw [show upd (cirRows c h js js c.justice.length) 9 ⟨slc h 9 c.symbols.length, 117, 3, c.symbols.length, c.symbols.flatMap scells⟩ = cirRows c h js js c.justice.length by funext q; unfold upd; split <;> rename_i e; (subst e; rfl); rfl]
    exact hS.rows⟩, Nat.zero_le _⟩ ?_
  clear hS hge hi5 hbox5
  rintro i w5 ⟨⟨xs, hS⟩, hi5⟩
  have hbox5 := hS.box
  rcases Nat.lt_or_ge i c.symbols.length with hlt | hge
  · have ho := hS.rows.own (i := 9) (by omega)
    rw [upd_at] at ho
    obtain ⟨g, cap, hv⟩ : ∃ g cap, slc h 9 c.symbols.length = .slice (some ⟨g, 0, none⟩) c.symbols.length cap := by
      rcases ho.2 with ⟨_, hn⟩ | ⟨g, cap, cur, hv, _⟩
      · have : c.symbols.length = 0 := hn
        omega
      · exact ⟨g, cap, hv⟩
    have e6 : (ccells c h)[0 + 9]? = some (.slice (some ⟨g, 0, none⟩) c.symbols.length cap) := by rw [← hv]; rfl
    obtain ⟨cur, hB, hcl, hlo, hset⟩ := hS.rows.set (i := 9) (g := g) (n := c.symbols.length) (cap := cap) (t := 117) (sz := 3) (xs := xs) (by omega) (by rw [upd_at, hv])
    have hgb := hb 9 g (by show (slc h 9 c.symbols.length).ownBlock = some g; rw [hv]; rfl)
    repeat' (first
      | (apply X_loadR; eq_refl; exact hbox5; exact e6)
      | (apply WC_seqK; intro K hK)
      | (apply hK; clear hK)
      | (apply WC_block)
      | (apply WC_region)
      | (apply WL_nil)
      | (apply thenQ_normal)
      | (apply WC_skip)
      | (apply WC_if_true; eq_refl)
      | (apply WL_on0; eq_refl)
      | (apply X_pv; eq_refl; first | exact trivial | omega)
      | (apply X_field; eq_refl)
      | (apply X_cmpT; eq_refl; eq_refl; omega)
      | (apply X_len; eq_refl)
      | (apply X_index; eq_refl; eq_refl; omega; omega)
      | (apply X_pure; apply build117_2 <;> eq_refl))
    refine X_doesU (does_storeA (t1 := 117) (vs := [.int .u8 0, nu 0, .string ⟨#[115, 112, 111, 105, 108, 116]⟩]) (o := 0 + (i : Int).toNat * 3) (b := g) (by eq_refl) (by eq_refl) hB rfl (by show 0 + (i : Int).toNat * 3 + 3 ≤ _; omega) (by simp [Value.oneCell'])) ?_
    have hcc : Chg w5 _ (fun k => k = g) := Chg.setRow w5 g (splice cur (0 + (i : Int).toNat * 3) [.int .u8 0, nu 0, .string ⟨#[115, 112, 111, 105, 108, 116]⟩]).toArray rfl
    repeat' (first
      | (apply hK; clear hK)
      | (apply WC_region)
      | (apply WL_nil)
      | (apply thenQ_normal)
      | (apply blockQ_normal)
      | (apply WL_on0; eq_refl)
      | (apply X_pv; eq_refl; first | exact trivial | omega))
    refine ⟨i + 1, ⟨rfl, rfl, rfl, trivial⟩, ⟨?_, hlt⟩, by omega⟩
    obtain ⟨xs', hS'⟩ := hset (splice cur (0 + (i : Int).toNat * 3) [.int .u8 0, nu 0, .string ⟨#[115, 112, 111, 105, 108, 116]⟩]) (splice_lenP cur [.int .u8 0, nu 0, .string ⟨#[115, 112, 111, 105, 108, 116]⟩] _ (by show 0 + (i : Int).toNat * 3 + 3 ≤ _; omega))
    rw [upd_updM, ← hv] at hS'
    exact ⟨xs', hS.chg.trans hcc fun k hk hh => by rw [hh]; exact hgb.1, hS.box.chg hcc (by omega), hS'⟩
  have hS : SpSt w w5 lo (fun k => ∃ i, (cirRows c h js js c.justice.length i).v.ownBlock = some k) w.heap.size c h (cirRows c h js js c.justice.length) (fun q => q = 10) := ⟨hS.chg, hS.box, hS.rows.back.mono fun q hq => by first | exact hq.elim | omega⟩
  repeat' (first
      | (apply WC_seqK; intro K hK)
      | (apply hK; clear hK)
      | (clear hK; apply hK; clear hK)
      | (apply WC_block)
      | (apply WC_region)
      | (apply WL_nil)
      | (apply thenQ_normal)
      | (apply thenQ_exit)
      | (apply blockQ_hit)
      | (apply WC_exit)
      | (apply WC_if_false; eq_refl)
      | (apply WL_on0; eq_refl)
      | (apply X_pv; eq_refl; first | exact trivial | omega)
      | (apply X_field; eq_refl)
      | (apply X_loadR; eq_refl; (first | assumption | (apply Blk.alloc; assumption) | apply Blk.new | apply Blk.newA | (apply Blk.alloc; first | apply Blk.newA | (apply Blk.alloc; first | assumption | apply Blk.newA))); eq_refl)
      | (apply X_cmpF; eq_refl; eq_refl; omega)
      | (apply X_len; eq_refl))
  refine WC_loop (fun i : Nat => [(1, nu mark), (2, pt w.heap.size), (8, nu i)]) (fun i W => (∃ xs, SpSt w W lo (fun k => ∃ i, (cirRows c h js js c.justice.length i).v.ownBlock = some k) w.heap.size c h (upd (cirRows c h js js c.justice.length) 10 ⟨slc h 10 c.comments.length, 9, 1, c.comments.length, xs⟩) (fun q => q = 10)) ∧ i ≤ c.comments.length) (fun i => c.comments.length - i) 0 ⟨rfl, rfl, rfl, trivial⟩ ⟨⟨c.comments.flatMap bcell, hS.chg, hS.box, by
    rw [show upd (cirRows c h js js c.justice.length) 10 ⟨slc h 10 c.comments.length, 9, 1, c.comments.length, c.comments.flatMap bcell⟩ = cirRows c h js js c.justice.length by funext q; unfold upd; split <;> rename_i e; (subst e; rfl); rfl]
    exact hS.rows⟩, Nat.zero_le _⟩ ?_
  clear hS hge hi5 hbox5
  rintro i w5 ⟨⟨xs, hS⟩, hi5⟩
  have hbox5 := hS.box
  rcases Nat.lt_or_ge i c.comments.length with hlt | hge
  · have ho := hS.rows.own (i := 10) (by omega)
    rw [upd_at] at ho
    obtain ⟨g, cap, hv⟩ : ∃ g cap, slc h 10 c.comments.length = .slice (some ⟨g, 0, none⟩) c.comments.length cap := by
      rcases ho.2 with ⟨_, hn⟩ | ⟨g, cap, cur, hv, _⟩
      · have : c.comments.length = 0 := hn
        omega
      · exact ⟨g, cap, hv⟩
    have e6 : (ccells c h)[0 + 10]? = some (.slice (some ⟨g, 0, none⟩) c.comments.length cap) := by rw [← hv]; rfl
    obtain ⟨cur, hB, hcl, hlo, hset⟩ := hS.rows.set (i := 10) (g := g) (n := c.comments.length) (cap := cap) (t := 9) (sz := 1) (xs := xs) (by omega) (by rw [upd_at, hv])
    have hgb := hb 10 g (by show (slc h 10 c.comments.length).ownBlock = some g; rw [hv]; rfl)
    repeat' (first
      | (apply X_loadR; eq_refl; exact hbox5; exact e6)
      | (apply WC_seqK; intro K hK)
      | (apply hK; clear hK)
      | (apply WC_block)
      | (apply WC_region)
      | (apply WL_nil)
      | (apply thenQ_normal)
      | (apply WC_skip)
      | (apply WC_if_true; eq_refl)
      | (apply WL_on0; eq_refl)
      | (apply X_pv; eq_refl; first | exact trivial | omega)
      | (apply X_field; eq_refl)
      | (apply X_cmpT; eq_refl; eq_refl; omega)
      | (apply X_len; eq_refl)
      | (apply X_index; eq_refl; eq_refl; omega; omega))
    refine X_doesU (does_store1 (t1 := 9) (b := g) (o := 0 + (i : Int).toNat * 1) (v := .string ⟨#[115, 112, 111, 105, 108, 116]⟩) (by eq_refl) (by eq_refl) hB (by omega) rfl rfl) ?_
    have hcc : Chg w5 _ (fun k => k = g) := Chg.setRow w5 g (cur.set (0 + (i : Int).toNat * 1) (.string ⟨#[115, 112, 111, 105, 108, 116]⟩)).toArray rfl
    repeat' (first
      | (apply hK; clear hK)
      | (apply WC_region)
      | (apply WL_nil)
      | (apply thenQ_normal)
      | (apply blockQ_normal)
      | (apply WL_on0; eq_refl)
      | (apply X_pv; eq_refl; first | exact trivial | omega))
    refine ⟨i + 1, ⟨rfl, rfl, rfl, trivial⟩, ⟨?_, hlt⟩, by omega⟩
    obtain ⟨xs', hS'⟩ := hset (cur.set (0 + (i : Int).toNat * 1) (.string ⟨#[115, 112, 111, 105, 108, 116]⟩)) (List.length_set)
    rw [upd_updM, ← hv] at hS'
    exact ⟨xs', hS.chg.trans hcc fun k hk hh => by rw [hh]; exact hgb.1, hS.box.chg hcc (by omega), hS'⟩
  have hS : SpSt w w5 lo (fun k => ∃ i, (cirRows c h js js c.justice.length i).v.ownBlock = some k) w.heap.size c h (cirRows c h js js c.justice.length) (fun q => False) := ⟨hS.chg, hS.box, hS.rows.back.mono fun q hq => by first | exact hq.elim | omega⟩
  repeat' (first
      | (apply WC_seqK; intro K hK)
      | (apply hK; clear hK)
      | (apply WC_region)
      | (apply WL_nil)
      | (apply thenQ_normal)
      | (apply thenQ_exit)
      | (apply blockQ_hit)
      | (apply WC_exit)
      | (apply WC_if_false; eq_refl)
      | (apply ret0n)
      | (apply WL_on0; eq_refl)
      | (apply X_pv; eq_refl; first | exact trivial | omega)
      | (apply X_field; eq_refl)
      | (apply X_loadR; eq_refl; (first | assumption | (apply Blk.alloc; assumption) | apply Blk.new | apply Blk.newA | (apply Blk.alloc; first | apply Blk.newA | (apply Blk.alloc; first | assumption | apply Blk.newA))); eq_refl)
      | (apply X_cmpF; eq_refl; eq_refl; omega)
      | (apply X_len; eq_refl))
  exact hS.chg
end SC
end Go.Proofs.Ytkndegjodnciaaa
end
section
/- IsBinary, of the reference and of shape. -/
set_option linter.unusedVariables false
set_option linter.unusedSimpArgs false
namespace Go.Proofs.Ytkndegjodnciaaa
namespace SC
open Go.Proofs
/-- Has it the binary order? -/
noncomputable def isBin (c : Circ) : Bool := by classical exact decide ((lookM c).2 = 0 ∧ BinOk c)
theorem isBin_no {c : Circ} (h : (lookM c).2 ≠ 0) : isBin c = false := by
  unfold isBin
  simp [h]
theorem isBin_iff {c : Circ} (h : (lookM c).2 = 0) : isBin c = true ↔ BinOk c := by
  unfold isBin
  simp [h]
theorem isBin_ren {c : Circ} (R : Right c) (h : (lookM c).2 = 0) : isBin c = true ↔ renC c = c := (isBin_iff h).trans ⟨R.bin_ren, R.ren_bin⟩
attribute [local irreducible] WC WL WX WS WO OX Does DoesU Enters CV Pure thenQ blockQ retQ Wants retQC GC GL GS GX RdB thenG blockG retG Rd At gt CVN CVM
attribute [local irreducible] renX
set_option maxRecDepth 100000
theorem isBinaryRef_cv {w : World} {c : Circ} {h js : Hd} (H : CirIn w c h js) : CVN Try.prog 40 [.agg (ccells c h).toArray] w fun v N => N = [] ∧ v = .tuple #[.bool (isBin c), nu (lookM c).2] := by
  have hck : ∀ Γ, In Γ (.old w none_) → ∀ w', Mem w' Γ → CVN Try.prog 25 [.agg (ccells c h).toArray] w' fun v N => N = [] ∧ v = .tuple #[nu (lookM c).1, nu (lookM c).2] := fun Γ hi w' M => have H' := H.chg (hi.old M); CVN.of (checkRef_cv H'.at_ H'.sane H'.okay H'.fits) fun v w' h => ⟨h.2, h.1⟩
  refine CVN.enter 16 [2, 3] Try.func40 rfl rfl rfl (by decide) rfl ?_
  by_cases he : (lookM c).2 = 0
  · have R := right_of H.at_ H.sane he
    have hb : ∀ Γ, In Γ (.old w none_) → ∀ w', Mem w' Γ → CVN Try.prog 106 [.agg (ccells c h).toArray] w' fun v N => N = [] ∧ v = .bool (isBin c) := fun Γ hi w' M => (Binary_cv R (H.at_.chg (hi.old M))).mono fun v N ⟨e1, β, e2, e3⟩ => ⟨e1, by rw [e2]; congr 1; rw [Bool.eq_iff_iff, e3, isBin_iff he]⟩
    rw [he] at hck ⊢
    generalize (lookM c).1 = n1 at *
    generalize isBin c = β at *
    repeat' (first
      | (apply G_call; eq_refl; eq_refl; (apply hck; (repeat first | exact In.here | apply In.there | apply In.skip)); rintro _ _ ⟨rfl, rfl⟩)
      | (apply G_call; eq_refl; eq_refl; (apply hb; (repeat first | exact In.here | apply In.there | apply In.skip)); rintro _ _ ⟨rfl, rfl⟩)
      | (apply GC_seqK; intro K hK)
      | (apply hK; clear hK K)
      | (apply GC_region)
      | (apply GL_nil)
      | (apply thenG_normal)
      | (apply GC_ret)
      | (apply GC_skip)
      | (apply GC_if_false; eq_refl)
      | (apply retG2; eq_refl; eq_refl)
      | (apply GL_on; eq_refl; eq_refl)
      | (apply G_pv; eq_refl; first | exact trivial | omega)
      | (apply G_ldW; eq_refl; (repeat first | exact In.here | apply In.there | apply In.skip); eq_refl)
      | (apply G_cmpF; eq_refl; eq_refl; omega)
      | (apply G_box; eq_refl; eq_refl; intro _))
    exact ⟨[], (by repeat first | exact Wk.nil | exact Wk.refl | (apply Wk.cons; (focus ((repeat first | exact Rem.here | apply Rem.there | apply Rem.skip); done))) | apply Wk.nilv | apply Wk.last | apply Wk.drop), rfl, rfl⟩
  · rw [isBin_no he]
    generalize (lookM c).2 = ε at *
    generalize (lookM c).1 = n1 at *
    repeat' (first
      | (apply G_call; eq_refl; eq_refl; (apply hck; (repeat first | exact In.here | apply In.there | apply In.skip)); rintro _ _ ⟨rfl, rfl⟩)
      | (apply GC_seqK; intro K hK)
      | (apply hK; clear hK K)
      | (apply GC_region)
      | (apply GL_nil)
      | (apply thenG_normal)
      | (apply thenG_ret)
      | (apply GC_ret)
      | (apply GC_if_true; eq_refl)
      | (apply retG2; eq_refl; eq_refl)
      | (apply GL_on; eq_refl; eq_refl)
      | (apply G_pv; eq_refl; first | exact trivial | omega)
      | (apply G_ldW; eq_refl; (repeat first | exact In.here | apply In.there | apply In.skip); eq_refl)
      | (apply G_cmpT; eq_refl; eq_refl; omega)
      | (apply G_box; eq_refl; eq_refl; intro _))
    exact ⟨[], (by repeat first | exact Wk.nil | exact Wk.refl | (apply Wk.cons; (focus ((repeat first | exact Rem.here | apply Rem.there | apply Rem.skip); done))) | apply Wk.nilv | apply Wk.last | apply Wk.drop), rfl, rfl⟩
theorem isBinary_cv {w : World} {c : Circ} {h js : Hd} (H : CirIn w c h js) : CVN Try.prog 39 [.agg (ccells c h).toArray] w fun v N => N = [] ∧ v = .tuple #[.bool (isBin c), nu (lookM c).2] := by
  have hren : ∀ Γ, In Γ (.old w none_) → ∀ w', Mem w' Γ → CVN Try.prog 37 [.agg (ccells c h).toArray] w' (RenR c) := fun Γ ho w' M => RenumberG (H.chg (ho.old M))
  refine CVN.enter 19 [2, 3] Try.func39 rfl rfl rfl (by decide) rfl ?_
  by_cases he : (lookM c).2 = 0
  · have R := right_of H.at_ H.sane he
    have hs : ∀ Γ base h' js' A k, In Γ (.any (renX base c h' js' A k)) → In Γ (.old w none_) → ∀ w', Mem w' Γ → CVN Try.prog 35 [.agg (ccells (renC c) h').toArray, .agg (ccells c h).toArray] w' fun v N => N = [] ∧ v = .bool (isBin c) := fun Γ base h' js' A k hx ho w' M => by
      have X := In.ren H he hx M
      exact CVN.of (Same_cv X.at_ (H.at_.chg (ho.old M)) X.okay H.okay) fun v w' ⟨b, e1, e2, e3⟩ => ⟨e3, by rw [e1]; congr 1; rw [Bool.eq_iff_iff, e2, isBin_ren R he]⟩
    have hRen : ∀ Γ, In Γ (.old w none_) → ∀ w', Mem w' Γ → CVN Try.prog 37 [.agg (ccells c h).toArray] w' fun v N => ∃ h' js' A k base, v = .tuple #[.agg (ccells (renC c) h').toArray, .slice A (toM c).length k, nu 0] ∧ N = [.any (renX base c h' js' A k)] := fun Γ ho w' M => (hren Γ ho w' M).mono fun v N hv => by
      rcases hv with ⟨h1, _⟩ | ⟨_, hv⟩
      · exact absurd he h1
      · exact hv
    rw [he]
    generalize isBin c = β at *
    repeat' (first
      | (apply G_call; eq_refl; eq_refl; (apply hRen; (repeat first | exact In.here | apply In.there | apply In.skip)); rintro _ _ ⟨h', js', A, k, base, rfl, rfl⟩)
      | (apply G_call; eq_refl; eq_refl; (apply hs; (repeat first | exact In.here | apply In.there | apply In.skip); (repeat first | exact In.here | apply In.there | apply In.skip)); rintro _ _ ⟨rfl, rfl⟩)
      | (apply GC_seqK; intro K hK)
      | (apply hK; clear hK K)
      | (apply GC_region)
      | (apply GL_nil)
      | (apply thenG_normal)
      | (apply GC_ret)
      | (apply GC_skip)
      | (apply GC_if_false; eq_refl)
      | (apply retG2; eq_refl; eq_refl)
      | (apply GL_on; eq_refl; eq_refl)
      | (apply G_pv; eq_refl; first | exact trivial | omega)
      | (apply G_ldW; eq_refl; (repeat first | exact In.here | apply In.there | apply In.skip); eq_refl)
      | (apply G_cmpF; eq_refl; eq_refl; omega)
      | (apply G_alloc; eq_refl; intro _)
      | (apply G_box; eq_refl; eq_refl; intro _)
      | (apply G_stW; (first | exact wr_p | kernel_rfl); eq_refl; eq_refl; eq_refl; eq_refl; (repeat first | exact Upd.here | apply Upd.there | apply Upd.skip); eq_refl))
    exact ⟨[], (by repeat first | exact Wk.nil | exact Wk.refl | (apply Wk.cons; (focus ((repeat first | exact Rem.here | apply Rem.there | apply Rem.skip); done))) | apply Wk.nilv | apply Wk.last | apply Wk.drop), rfl, rfl⟩
  · have hRen : ∀ Γ, In Γ (.old w none_) → ∀ w', Mem w' Γ → CVN Try.prog 37 [.agg (ccells c h).toArray] w' fun v N => v = .tuple #[.agg Zc.toArray, .slice none 0 0, nu (lookM c).2] ∧ N = [] := fun Γ ho w' M => (hren Γ ho w' M).mono fun v N hv => by
      rcases hv with ⟨_, hv⟩ | ⟨h1, _⟩
      · exact hv
      · exact absurd h1 he
    rw [isBin_no he]
    generalize (lookM c).2 = ε at *
    repeat' (first
      | (apply G_call; eq_refl; eq_refl; (apply hRen; (repeat first | exact In.here | apply In.there | apply In.skip)); rintro _ _ ⟨rfl, rfl⟩)
      | (apply GC_seqK; intro K hK)
      | (apply hK; clear hK K)
      | (apply GC_region)
      | (apply GL_nil)
      | (apply thenG_normal)
      | (apply thenG_ret)
      | (apply GC_ret)
      | (apply GC_if_true; eq_refl)
      | (apply retG2; eq_refl; eq_refl)
      | (apply GL_on; eq_refl; eq_refl)
      | (apply G_pv; eq_refl; first | exact trivial | omega)
      | (apply G_ldW; eq_refl; (repeat first | exact In.here | apply In.there | apply In.skip); eq_refl)
      | (apply G_cmpT; eq_refl; eq_refl; omega)
      | (apply G_alloc; eq_refl; intro _)
      | (apply G_box; eq_refl; eq_refl; intro _)
      | (apply G_stW; (first | exact wr_p | kernel_rfl); eq_refl; eq_refl; eq_refl; eq_refl; (repeat first | exact Upd.here | apply Upd.there | apply Upd.skip); eq_refl))
    exact ⟨[], (by repeat first | exact Wk.nil | exact Wk.refl | (apply Wk.cons; (focus ((repeat first | exact Rem.here | apply Rem.there | apply Rem.skip); done))) | apply Wk.nilv | apply Wk.last | apply Wk.drop), rfl, rfl⟩
end SC
end Go.Proofs.Ytkndegjodnciaaa
end
section
/- The renumbered circuit has the binary order. -/
set_option linter.unusedVariables false
set_option linter.unusedSimpArgs false
namespace Go.Proofs.Ytkndegjodnciaaa
namespace SC
open Go.Proofs
section
variable {c : Circ} (R : Right c)
include R
end
end SC
end Go.Proofs.Ytkndegjodnciaaa
end
section
/- trestlelaw03: ShapeSettles: the walk. -/
set_option linter.unusedVariables false
set_option linter.unusedSimpArgs false
namespace Go.Proofs.Ytkndegjodnciaaa
namespace SC
open Go.Proofs
theorem In.ren2 {Γ : Mm} {w : World} {base : Nat} {c : Circ} {h js : Hd} {A : Option Addr} {k : Nat} (hi : In Γ (.any (renX base c h js A k))) (M : Mem w Γ) : CirAt w (renC c) h js := CirOwn.at (hi.ok M).1
attribute [local irreducible] WC WL WX WS WO OX Does DoesU Enters CV Pure thenQ blockQ retQ Wants retQC GC GL GS GX RdB thenG blockG retG Rd At gt CVN CVM
attribute [local irreducible] renX
set_option maxRecDepth 100000
end SC
end Go.Proofs.Ytkndegjodnciaaa
end
section
/- trestlebook: CopyCircuit by entries; trestleref03: Renumber. -/
set_option linter.unusedVariables false
set_option linter.unusedSimpArgs false
namespace Go.Proofs.Ytkndegjodnciaaa
namespace SC
open Go.Proofs
/-- A whole thing is stored into its place in a vector. -/
theorem G_stVW {P : Program} {n : Nat} {all : List Oper} {K : Env → Mm → Prop} {m : Md} {e : Env} {Γ Γ' : Mm} {d : Option Tmp} {ty t t0 : TypeId} {x y : Operand} {td : TypeDesc} {sz by_ : Nat} {zv : Value} {ag : Bool} {α : Type} {enc : α → List Value} {A : Option Addr} {c : Nat} {i : Int} {l : List α} {vs : List Value} (a : α) [T : Ty P t td sz zv by_ ag]
    (hm : wrOk all m = true) (h : ev e x = some (.pointer (some (At A (i.toNat * sz))))) (h1 : ev e y = some (.agg vs.toArray)) (ha : vs = enc a) (hU : Upd Γ (.vec enc sz t0 A c l) (.vec enc sz t0 A c (l.set i.toNat a)) Γ') (N : Enc enc sz) (h0 : 0 ≤ i) (hlt : i < l.length) (hr : GN P n all K m (push d undef e) Γ') : GX P n all K m d (.store t x y) ty e Γ := by
  subst ha
  refine GX_acts (R := fun v Γ1 => v = undef ∧ Γ1 = Γ') hm (fun Δ w M => ?_) fun v Γ1 ⟨e1, e2⟩ => by rw [e1, e2]; exact hr
  have hb : (Ent.vec enc sz t0 A c l).ok w := by obtain ⟨R, p, _⟩ := hU.perm; exact M.right.ok _ (p.mem_iff.2 (by simp))
  have hb' : w.ownsRow 0 t0 sz (.slice A l.length c) l.length (l.flatMap enc) := hb
  obtain ⟨g, rfl⟩ : ∃ g, A = some ⟨g, 0, none⟩ := by
    rcases hb'.2 with ⟨hv, hn⟩ | ⟨g, cap, cur, hv, _⟩
    · omega
    · cases hv; exact ⟨g, rfl⟩
  obtain ⟨cur, hB, hx, hcl, _, hst⟩ := own_set hb'
  have hlt' : i.toNat < l.length := by omega
  have h3 : i.toNat * sz + sz ≤ l.length * sz := by
    have : (i.toNat + 1) * sz ≤ l.length * sz := Nat.mul_le_mul_right sz hlt'
    rwa [Nat.succ_mul] at this
  have hle : i.toNat * sz + (enc a).length ≤ l.length * sz := by rw [N.len]; exact h3
  have h' : ev e x = some (.pointer (some ⟨g, i.toNat * sz, none⟩)) := by rw [h]; unfold At; simp [add_at]
  refine .inr (.inr ⟨_, does_storeA h' h1 hB (N.len a) (by omega) (N.one a), Γ', ?_, rfl, rfl⟩)
  have hown : (Ent.vec enc sz t0 (some ⟨g, 0, none⟩) c (l.set i.toNat a)).ok (w.setRow g (splice cur (i.toNat * sz) (enc a)).toArray) := by
    show World.ownsRow _ _ _ _ _ _ _
    have := hst (splice cur (i.toNat * sz) (enc a)) (splice_len (by omega))
    rw [splice_take hle hcl, ← hx, splice_set enc sz N.len l i.toNat a hlt'] at this
    rw [List.length_set]
    exact this
  exact Mem.upd hU M (Chg.setRow w g _ (S := fun k => k = g) rfl) (fun k _ h => by subst h; rfl) hown fun k hk => .inl (by simpa [Ent.own, Value.ownBlock] using hk)
/-- A row that is changed from the left. -/
def mix {α : Type} (a b : List α) (i : Nat) : List α := a.take i ++ b.drop i
theorem mix_len {α : Type} {a b : List α} {i : Nat} (h : a.length = b.length) : (mix a b i).length = b.length := by unfold mix; simp; omega
theorem mix_all {α : Type} {a b : List α} {i : Nat} (h : a.length ≤ i) (h1 : b.length ≤ i) : mix a b i = a := by unfold mix; rw [List.take_of_length_le h, List.drop_of_length_le h1, List.append_nil]
theorem mix_step {α : Type} {a b : List α} {i : Nat} {x : α} (h : i < a.length) (h1 : a.length = b.length) (hx : x = a[i]) : (mix a b i).set (i : Int).toNat x = mix a b (i + 1) := by
  have e : (a.take i).length = i := by rw [List.length_take]; omega
  unfold mix
  rw [Int.toNat_natCast, List.set_append_right _ _ (by omega), e, Nat.sub_self, List.drop_eq_getElem_cons (by omega), List.set_cons_zero, List.take_succ_eq_append_getElem h, List.append_assoc, hx]
  rfl
/-- What CopyCircuit adds, as entries; of what Renumber lays anew nothing is said. -/
def cpE (c : Circ) (h js : Hd) : Mm := [.vec icell 1 3 (h 1).1 (h 1).2 c.inputs, .vec tcells 3 70 (h 2).1 (h 2).2 c.latches, .vec encS 1 45 (h 6).1 (h 6).2 (jps c js), .vec tcells 3 43 (h 8).1 (h 8).2 c.ands, .vec scells 3 117 (h 9).1 (h 9).2 c.symbols, .vec bcell 1 9 (h 10).1 (h 10).2 c.comments]
theorem flat_one {α β : Type} (f : α → β) : ∀ l : List α, (l.flatMap fun a => [f a]) = l.map f
  | [] => rfl
  | a :: r => by rw [List.flatMap_cons, flat_one f r]; rfl
theorem jps_cells (c : Circ) (js : Hd) : (jps c js).flatMap encS = jcells c js := by
  unfold jps jcells
  rw [List.flatMap_map]
  exact flat_one (fun k => slc js k (c.justice.getD k []).length) _
theorem copyG {w : World} {c : Circ} {h js : Hd} (H : CirAt w c h js) (hf : c.Fits) (hn : Nils h js) : CVN Try.prog 73 [.agg (ccells c h).toArray] w fun v N => ∃ h' js', v = .agg (ccells c h').toArray ∧ N = cpE c h' js' :=
  CV.mono (copyCircuit_cv H hf hn) fun v w' ⟨h', js', e1, hH, hc⟩ => by
    have o1 := hH 1
    have o2 := hH 2
    have o6 := hH 6
    have o8 := hH 8
    have o9 := hH 9
    have o10 := hH 10
    simp only [Rw.own, cirRows] at o1 o2 o6 o8 o9 o10
    have e6 : ((List.range c.justice.length).map fun k => if k < c.justice.length then slc js' k (c.justice.getD k []).length else slc js' k (c.justice.getD k []).length) = jcells c js' := by
      unfold jcells
      exact List.map_congr_left fun k hk => by split <;> rfl
    rw [e6, ← jps_cells] at o6
    have hE : ∀ E ∈ cpE c h' js', E.ok w' ∧ ∀ k, E.own k → w.heap.size ≤ k := by
      intro E hE
      simp only [cpE, List.mem_cons, List.not_mem_nil, or_false] at hE
      rcases hE with rfl | rfl | rfl | rfl | rfl | rfl
      · exact ⟨ownsRow_low o1, fun k hk => (World.ownsRow.lt o1 k hk).1⟩
      · exact ⟨ownsRow_low o2, fun k hk => (World.ownsRow.lt o2 k hk).1⟩
      · have o6' : w'.ownsRow w.heap.size 45 1 (.slice (h' 6).1 (jps c js').length (h' 6).2) (jps c js').length ((jps c js').flatMap encS) := by rw [jps_len]; exact o6
        exact ⟨ownsRow_low o6', fun k hk => (World.ownsRow.lt o6' k hk).1⟩
      · exact ⟨ownsRow_low o8, fun k hk => (World.ownsRow.lt o8 k hk).1⟩
      · exact ⟨ownsRow_low o9, fun k hk => (World.ownsRow.lt o9 k hk).1⟩
      · exact ⟨ownsRow_low o10, fun k hk => (World.ownsRow.lt o10 k hk).1⟩
    have hap : (cpE c h' js').Pairwise Ent.apart := by
      have ap : ∀ {α β : Type} {ea : α → List Value} {eb : β → List Value} {s1 s2 : Nat} {t1 t2 : TypeId} {A B : Option Addr} {c1 c2 : Nat} {l1 : List α} {l2 : List β}, (Ent.vec ea s1 t1 A c1 l1).ok w' → (Ent.vec eb s2 t2 B c2 l2).ok w' → t1 ≠ t2 → Ent.apart (.vec ea s1 t1 A c1 l1) (.vec eb s2 t2 B c2 l2) := fun h1 h2 ht k hk hk2 => own_ne h1 h2 ht hk hk2
      have a1 := (hE _ (List.mem_cons_self)).1
      have a2 := (hE _ (List.mem_cons_of_mem _ List.mem_cons_self)).1
      have a3 := (hE _ (List.mem_cons_of_mem _ (List.mem_cons_of_mem _ List.mem_cons_self))).1
      have a4 := (hE _ (List.mem_cons_of_mem _ (List.mem_cons_of_mem _ (List.mem_cons_of_mem _ List.mem_cons_self)))).1
      have a5 := (hE _ (List.mem_cons_of_mem _ (List.mem_cons_of_mem _ (List.mem_cons_of_mem _ (List.mem_cons_of_mem _ List.mem_cons_self))))).1
      have a6 := (hE _ (List.mem_cons_of_mem _ (List.mem_cons_of_mem _ (List.mem_cons_of_mem _ (List.mem_cons_of_mem _ (List.mem_cons_of_mem _ List.mem_cons_self)))))).1
      unfold cpE
      simp only [List.pairwise_cons, List.mem_cons, List.not_mem_nil, or_false, forall_eq_or_imp, forall_eq, List.Pairwise.nil, and_true]
      refine ⟨⟨ap a1 a2 (by decide), ap a1 a3 (by decide), ap a1 a4 (by decide), ap a1 a5 (by decide), ap a1 a6 (by decide)⟩, ⟨ap a2 a3 (by decide), ap a2 a4 (by decide), ap a2 a5 (by decide), ap a2 a6 (by decide)⟩, ⟨ap a3 a4 (by decide), ap a3 a5 (by decide), ap a3 a6 (by decide)⟩, ⟨ap a4 a5 (by decide), ap a4 a6 (by decide)⟩, ap a5 a6 (by decide), fun _ h => h.elim⟩
    refine ⟨cpE c h' js', Mem.join ⟨fun E h => (hE E h).1, hap⟩ (.one hc) fun k ⟨E, hE1, h1⟩ ⟨F, hF, h2⟩ => ?_, h', js', e1, rfl⟩
    simp only [List.mem_singleton] at hF
    subst hF
    have := (hE E hE1).2 k h1
    have := h2.1
    omega
end SC
end Go.Proofs.Ytkndegjodnciaaa
end
