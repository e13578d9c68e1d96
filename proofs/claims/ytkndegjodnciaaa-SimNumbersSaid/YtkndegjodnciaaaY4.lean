/- Texts of this seat, one behind the other: G6 G7 H1 L3 L4 L5 L6 L7 L8 L9 S2 S3 S4 S5 S6 S7 S8 S9 S10 S11 S12 S13 L10 S14 S15 S16 S17 S18 S19 S20 S21 S22 S23 S24 S27 S28. -/
import Derived.Test.YtkndegjodnciaaaY3
import Derived.ChangeArms
section
/- shape: Renumber, the walk. -/
set_option linter.unusedVariables false
set_option linter.unusedSimpArgs false
namespace Go.Proofs.Ytkndegjodnciaaa
namespace SC
open Go.Proofs
section
variable {P : Program} {n : Nat} {all : List Oper} {K : Env → World → Prop} {S : World → Prop} {r : List (Nat × Bool)} {i : Nat} {e : Env} {w : World} {d : Option Tmp} {ty : TypeId} {x : Operand}
theorem O_clo {f : FuncId} [F : SC.Fn P f] {args : Array Operand} {ats : Array TypeId} {vs : List Value} {cap : Array Value} {R : Value → World → Prop} (hx : ev e x = some (.func (.func f) #[] cap)) (h : evs e args.toList = some vs) (hc : CV P f (vs ++ cap.toList) w R)
    (hr : ∀ v w', R v w' → (loose .any all.toArray i = false → S w') ∧ WS P n all S K r (push d v e) w') : OX P n all S K i false r d (.call { callee := .value x, args := args, argTypes := ats }) ty e w :=
  O_call (entersC hx (evs_map h)) hc (fun v w' h => (hr v w' h).1) fun v w' h => (hr v w' h).2
end
abbrev Zc : List Value := [nu 0, .slice none 0 0, .slice none 0 0, .slice none 0 0, .slice none 0 0, .slice none 0 0, .slice none 0 0, .slice none 0 0, .slice none 0 0, .slice none 0 0, .slice none 0 0]
attribute [local irreducible] WC WL WX WS WO OX Does DoesU Enters CV Pure thenQ blockQ retQ Wants retQC
set_option maxRecDepth 100000
/-- What lies in memory while numbers are given. -/
structure GivM (w W : World) (c : Circ) (h : Hd) (u : Value) (ord : List Int) (tr : Nat) (ks : List Int) : Prop where
  chg : Chg w W none_
  cir : Blk W w.heap.size 51 (ccells c h)
  res : Blk W (w.heap.size + 1) 51 Zc
  next : Blk W (tr + 2) 3 [nu (2 * ks.length)]
  map : MapAt W (tr + 1) tr (mapOf c.max ks)
  row : W.ownsRow (w.heap.size + 2) 3 1 u ord.length (ord.map nu)
  lay : w.heap.size + 2 ≤ tr ∧ ∀ k, u.ownBlock = some k → k < tr
section
variable {w W W' : World} {c : Circ} {h : Hd} {u : Value} {ord : List Int} {tr : Nat} {ks : List Int}
theorem GivM.same (G : GivM w W c h u ord tr ks) (hc : Chg W W' none_) : GivM w W' c h u ord tr ks :=
  ⟨G.chg.trans hc fun _ _ h => h, G.cir.chg hc id, G.res.chg hc id, G.next.chg hc id, G.map.chg hc id id, own_chg G.row hc fun _ _ => id, G.lay⟩
theorem GivM.call (G : GivM w W c h u ord tr ks) {l : Int} (hl : rg (c.max + 1).toNat (l / 2)) (hk : ks.length ≤ 50000) : CV Try.prog 101 [nu l, pt (tr + 2), pt (tr + 1)] W fun _ W' => GivM w W' c h u ord tr (ks ++ [l]) := by
  refine (give_cv G.next G.map (by rw [mapOf_len]; exact hl) ⟨by omega, by omega⟩ ⟨by omega, by omega, by omega⟩).mono ?_
  rintro v W' ⟨h1, h2, h3⟩
  have hlay := G.lay
  refine ⟨G.chg.trans h3 fun k hk hh => by omega, G.cir.chg h3 (by omega), G.res.chg h3 (by omega), ?_, ?_, own_chg G.row h3 fun k hk hh => by have := hlay.2 k hk; omega, hlay⟩
  · rw [List.length_append, List.length_singleton]
    have e : (2 * (ks.length : Int) + 2) = 2 * ((ks.length + 1 : Nat) : Int) := by omega
    rwa [e] at h1
  · rw [mapOf_snoc]; exact h2
end
/-- What lies in memory while the new circuit is written. -/
structure RB (w W : World) (c : Circ) (h : Hd) (u : Value) (ord : List Int) (to : List Int) (tr lb ob : Nat) (cs : List Value) (F : Nat → Rw) : Prop where
  chg : Chg w W none_
  cir : Blk W w.heap.size 51 (ccells c h)
  res : Blk W (w.heap.size + 1) 51 Zc
  map : MapAt W (tr + 1) tr to
  row : W.ownsRow (w.heap.size + 2) 3 1 u ord.length (ord.map nu)
  lit : Blk W lb 127 [.func (.func 102) #[] #[pt (tr + 1)]]
  out : Blk W ob 51 cs
  rows : Rows W (lb + 1) F
  free : ∀ i k, (F i).v.ownBlock = some k → k ≠ ob
  lay : w.heap.size + 2 ≤ tr ∧ (∀ k, u.ownBlock = some k → k < tr) ∧ tr + 2 < lb ∧ lb < ob
section
variable {w W W' : World} {c : Circ} {h : Hd} {u : Value} {ord to : List Int} {tr lb ob : Nat} {cs : List Value} {F : Nat → Rw}
theorem RB.same (G : RB w W c h u ord to tr lb ob cs F) (hc : Chg W W' none_) : RB w W' c h u ord to tr lb ob cs F :=
  ⟨G.chg.trans hc fun _ _ h => h, G.cir.chg hc id, G.res.chg hc id, G.map.chg hc id id, own_chg G.row hc fun _ _ => id, G.lit.chg hc id, G.out.chg hc id, G.rows.same hc, G.free, G.lay⟩
theorem RB.add (G : RB w W c h u ord to tr lb ob cs F) (i : Nat) (r : Rw) (hc : Chg W W' none_) (hr : W'.ownsRow W.heap.size r.t r.sz r.v r.n r.cells) : RB w W' c h u ord to tr lb ob cs (upd F i r) := by
  have G' := G.same hc
  refine ⟨G'.chg, G'.cir, G'.res, G'.map, G'.row, G'.lit, G'.out, G.rows.add i r hc hr (by have := G.lit.lt; omega), fun j k hk => ?_, G.lay⟩
  unfold upd at hk
  split at hk
  · have := (World.ownsRow.lt hr k hk).1
    have := G.out.lt
    omega
  · exact G.free j k hk
theorem RB.store (G : RB w W c h u ord to tr lb ob cs F) (cs' : List Value) : RB w (W.setRow ob cs'.toArray) c h u ord to tr lb ob cs' F := by
  have hc : Chg W (W.setRow ob cs'.toArray) (fun k => k = ob) := Chg.setRow _ _ _ rfl
  have hl := G.lay
  refine ⟨G.chg.trans hc fun k hk hh => by omega, G.cir.chg hc (by omega), G.res.chg hc (by omega), G.map.chg hc (by omega) (by omega), own_chg G.row hc fun k hk hh => by have := hl.2.1 k hk; omega, G.lit.chg hc (by omega), G.out.set _, G.rows.chg hc fun i k hk hh => G.free i k hk hh, G.free, hl⟩
theorem RB.other (G : RB w W c h u ord to tr lb ob cs F) {s : Nat} (hc : Chg W W' (fun k => k = s)) (h1 : ob < s) (h2 : ∀ i k, (F i).v.ownBlock = some k → k < s) : RB w W' c h u ord to tr lb ob cs F := by
  have hl := G.lay
  exact ⟨G.chg.trans hc fun k hk hh => by omega, G.cir.chg hc (by omega), G.res.chg hc (by omega), G.map.chg hc (by omega) (by omega), own_chg G.row hc fun k hk hh => by have := hl.2.1 k hk; omega, G.lit.chg hc (by omega), G.out.chg hc (by omega), G.rows.chg hc fun i k hk hh => by have := h2 i k hk; omega, G.free, hl⟩
/-- A row of the new circuit is written. -/
theorem RB.write (G : RB w W c h u ord to tr lb ob cs F) (i : Nat) (r : Rw) {g : Nat} {cur : List Value} (hg : (F i).v.ownBlock = some g) (hv : r.v = (F i).v) (hr : r.own (W.setRow g cur.toArray) (lb + 1)) : RB w (W.setRow g cur.toArray) c h u ord to tr lb ob cs (upd F i r) := by
  have hc : Chg W (W.setRow g cur.toArray) (fun k => k = g) := Chg.setRow _ _ _ rfl
  have hl := G.lay
  have hgl := (G.rows.lt hg).1
  have hgo := G.free i g hg
  refine ⟨G.chg.trans hc fun k hk hh => by omega, G.cir.chg hc (by omega), G.res.chg hc (by omega), G.map.chg hc (by omega) (by omega), own_chg G.row hc fun k hk hh => by have := hl.2.1 k hk; omega, G.lit.chg hc (by omega), G.out.chg hc (fun h => hgo h.symm), ?_, fun j k hk => ?_, hl⟩
  · exact G.rows.put i r hc (fun j k hj hk hh => by subst hh; exact G.rows.apart i j k (fun e => hj e.symm) hg hk) hr fun k hk => .inl (by rw [← hv]; exact hk)
  · unfold upd at hk
    split at hk
    · rw [hv] at hk; exact G.free i k hk
    · exact G.free j k hk
end
theorem sumL_mem : ∀ {ls : List (List Int)} {l : List Int}, l ∈ ls → (l.length : Int) ≤ sumL ls
  | a :: r, l, h => by
    rcases List.mem_cons.1 h with rfl | h
    · unfold sumL; simp only [List.map_cons, List.sum_cons]; omega
    · have := sumL_mem h; unfold sumL at *; simp only [List.map_cons, List.sum_cons]; omega
theorem fits_of {c : Circ} (h : sizesM c = 0) (hs : sumL c.justice ≤ 16384) : c.Fits := by
  obtain ⟨_, _, hl, _⟩ := sizesM_ok h
  have e : ∀ n : Nat, (n : Int) ∈ c.lens → n ≤ 16384 := fun n hn => by have := hl _ hn; omega
  have h1 := e c.inputs.length (by simp [Circ.lens])
  have h2 := e c.latches.length (by simp [Circ.lens])
  have h3 := e c.outputs.length (by simp [Circ.lens])
  have h4 := e c.bads.length (by simp [Circ.lens])
  have h5 := e c.constraints.length (by simp [Circ.lens])
  have h6 := e c.justice.length (by simp [Circ.lens])
  have h7 := e c.fairness.length (by simp [Circ.lens])
  have h8 := e c.ands.length (by simp [Circ.lens])
  have h9 := e c.symbols.length (by simp [Circ.lens])
  have h10 := e c.comments.length (by simp [Circ.lens])
  exact ⟨by omega, by omega, by omega, by omega, by omega, by omega, fun l hl => by have := sumL_mem hl; omega, by omega, by omega, by omega, by omega⟩
/-- What Renumber answers. -/
def RenAns (c : Circ) (w : World) (v : Value) (w' : World) : Prop :=
  Chg w w' none_ ∧ (((lookM c).2 ≠ 0 ∧ v = .tuple #[.agg Zc.toArray, .slice none 0 0, nu (lookM c).2]) ∨
    ((lookM c).2 = 0 ∧ ∃ (ord : List Int) (h' js' : Hd) (u : Value), All c.ands.length (gateB (tabM c) c) ord ∧ ord.length = c.ands.length ∧ v = .tuple #[.agg (ccells (renM c ord) h').toArray, u, nu 0] ∧ CirOwn w' w.heap.size (renM c ord) h' js' ∧
      w'.ownsRow w.heap.size 3 1 u (mapOf c.max (defsOf c ord)).length ((mapOf c.max (defsOf c ord)).map nu)))
theorem Renumber_cv {w : World} {c : Circ} {h js : Hd} (H : CirAt w c h js) (hs : c.Sane) (hjs : sumL c.justice ≤ 16384) : CV Try.prog 37 [.agg (ccells c h).toArray] w (RenAns c w) := by
  refine enterC (t := 51) 204 2 [3, 4] Try.func37 rfl rfl rfl (.inr rfl) rfl ?_
  have hC0 : Chg w ((w.alloc (.cells (ccells c h).toArray 51)).alloc (.cells Zc.toArray 51)) none_ := (Chg.alloc w _ none_).al _
  have hI0 : Blk ((w.alloc (.cells (ccells c h).toArray 51)).alloc (.cells Zc.toArray 51)) w.heap.size 51 (ccells c h) := Blk.alloc _ (Blk.new w _ _)
  have hR0 : Blk ((w.alloc (.cells (ccells c h).toArray 51)).alloc (.cells Zc.toArray 51)) (w.heap.size + 1) 51 Zc := by
    have := Blk.new (w.alloc (.cells (ccells c h).toArray 51)) Zc 51
    rwa [sz_alloc] at this
  have hz0 : ((w.alloc (.cells (ccells c h).toArray 51)).alloc (.cells Zc.toArray 51)).heap.size = w.heap.size + 2 := by rw [sz_alloc, sz_alloc]
  have hor := Order_cv (H.chg hC0) hs
  rw [hz0] at hor
  repeat' (first
      | (apply X_allocK (w.heap.size + 1); exact sz_alloc _ _)
      | (apply X_fn; eq_refl; exact hor; rintro _ w1 ⟨hC1, hv⟩; rcases hv with ⟨he, rfl⟩ | ⟨he, ord, u, rfl, hall, hol, hrow⟩)
      | (apply WC_seqK; intro K hK)
      | (apply hK; clear hK)
      | (apply WC_region)
      | (apply WL_nil)
      | (apply thenQ_normal)
      | (apply WC_skip)
      | (apply WC_if_true; eq_refl)
      | (apply WC_if_false; eq_refl)
      | (apply WL_on0; eq_refl)
      | (apply X_pv; eq_refl; first | exact trivial | omega)
      | (apply X_field; eq_refl)
      | (apply X_loadW; eq_refl; (first | assumption | (apply Blk.alloc; assumption) | apply Blk.new | apply Blk.newA | (apply Blk.alloc; first | apply Blk.newA | (apply Blk.alloc; first | assumption | apply Blk.newA))); eq_refl)
      | (apply X_cmpT; eq_refl; eq_refl; omega)
      | (apply X_cmpF; eq_refl; eq_refl; omega)
      | (apply X_box; eq_refl)
      | (apply X_pure; apply build51_))
  · have hR1 := hR0.chg hC1 id
    refine X_doesU (does_storeA (t1 := 51) (vs := Zc) (o := 0) (b := w.heap.size + 1) (by eq_refl) (by eq_refl) hR1 rfl (by exact Nat.le_refl 11) (by simp [Value.oneCell'])) ?_
    have hcc : Chg w1 (w1.setRow (w.heap.size + 1) Zc.toArray) (fun k => k = w.heap.size + 1) := Chg.setRow _ _ _ rfl
    have hR2 := hR1.set Zc
    have hCe : Chg w (w1.setRow (w.heap.size + 1) Zc.toArray) none_ := (hC0.trans hC1 fun _ _ h => h).trans hcc fun k hk hh => by omega
    repeat' (first
      | (apply hK; clear hK)
      | (apply WL_nil)
      | (apply thenQ_normal)
      | (apply thenQ_ret)
      | (apply WC_ret)
      | (apply WL_on0; eq_refl)
      | (apply X_pv; eq_refl; first | exact trivial | omega))
    refine retC2 (.inl rfl) (by eq_refl) (by eq_refl) (by eq_refl) (cs := Zc) (fun j u hj => ?_) rfl ⟨hCe, .inl ⟨he, rfl⟩⟩
    rw [add_at, Nat.zero_add]
    exact (hR2.cell j).trans hj
  have hI1 := hI0.chg hC1 id
  have hR1 := hR0.chg hC1 id
  obtain ⟨hle, hsz, hd, hu, _⟩ := lookM_ok he
  obtain ⟨hm0, hm1, hln, hsum⟩ := sizesM_ok hsz
  have hTO : TabOk c (tabM c) := definesM_spec hm0 hd
  have hUA := usesM_spec.1 hu
  obtain ⟨m, hm⟩ : ∃ m : Nat, c.max + 1 = m := ⟨(c.max + 1).toNat, by omega⟩
  obtain ⟨Au, cu, rfl⟩ := row_form' hrow
  have hC1' : Chg w w1 none_ := hC0.trans hC1 fun _ _ h => h
  have hz1 := hC1.size
  rw [hz0] at hz1
  repeat' (first
      | (apply WL_on0; eq_refl)
      | (apply X_pv; eq_refl; first | exact trivial | omega)
      | (apply X_loadR; eq_refl; (first | assumption | (apply Blk.alloc; assumption) | apply Blk.new | apply Blk.newA | (apply Blk.alloc; first | apply Blk.newA | (apply Blk.alloc; first | assumption | apply Blk.newA))); eq_refl))
  rw [hm]
  repeat' (first
      | (apply X_make; eq_refl; omega; omega)
      | (apply X_allocK (w1.heap.size + 1); exact sz_alloc _ _)
      | (apply WL_on0; eq_refl))
  refine X_doesU (does_store1 (t1 := 45) (b := w1.heap.size + 1) (o := 0) (v := .slice (some ⟨w1.heap.size, 0, none⟩) m m) (cs := [.slice none 0 0]) (by eq_refl) (by eq_refl) ?_ (by simp) rfl rfl) ?_
  · have := Blk.new (w1.alloc (.cells (madeCells (Value.int .i64 0).cells (m * 1)) 3)) [Value.slice none 0 0] 45
    rw [sz_alloc] at this
    exact this
  refine WL_turn (fun W => Chg w W none_ ∧ Blk W w.heap.size 51 (ccells c h) ∧ Blk W (w.heap.size + 1) 51 Zc ∧ MapAt W (w1.heap.size + 1) w1.heap.size (mapOf c.max []) ∧ W.ownsRow (w.heap.size + 2) 3 1 (.slice Au ord.length cu) ord.length (ord.map nu) ∧ W.heap.size = w1.heap.size + 2) ?_ ?_
  · have e1 : (madeCells (Value.int .i64 0).cells (m * 1)).toList = (mapOf c.max []).map nu := by
      rw [Nat.mul_one, show (Value.int .i64 0).cells = #[nu 0] from rfl, made_one]
      show _ = (List.replicate (c.max + 1).toNat (0 : Int)).map nu
      rw [List.map_replicate, show (c.max + 1).toNat = m by omega]
    have hml : (mapOf c.max []).length = m := by rw [mapOf_len]; omega
    have g1 := Blk.newA w1 (madeCells (Value.int .i64 0).cells (m * 1)) 3
    rw [e1] at g1
    have g2 := Blk.new (w1.alloc (.cells (madeCells (Value.int .i64 0).cells (m * 1)) 3)) [Value.slice none 0 0] 45
    rw [sz_alloc] at g2
    have hcc := Chg.setRow ((w1.alloc (.cells (madeCells (Value.int .i64 0).cells (m * 1)) 3)).alloc (.cells #[Value.slice none 0 0] 45)) (w1.heap.size + 1) ([Value.slice none 0 0].set 0 (.slice (some ⟨w1.heap.size, 0, none⟩) m m)).toArray (S := fun k => k = w1.heap.size + 1) rfl
    refine ⟨((hC1'.al _).al _).trans hcc fun k hk hh => by omega, ((hI1.alloc _).alloc _).chg hcc (by omega), ((hR1.alloc _).alloc _).chg hcc (by omega), ⟨?_, (g1.alloc _).chg hcc (by omega)⟩, own_chg ((hrow.alloc _).alloc _) hcc fun k hk hh => by have := (hrow.lt k hk).2; omega, ?_⟩
    · rw [hml]; exact g2.set _
    · simp [World.setRow]
  rintro w2 ⟨hC2, hI2, hR2, hM2, hrow2, hz2⟩
  repeat' (first
      | (apply X_allocK (w1.heap.size + 2); exact hz2)
      | (apply WC_seqK; intro K hK)
      | (apply hK; clear hK)
      | (apply WC_region)
      | (apply WL_nil)
      | (apply thenQ_normal)
      | (apply WL_on0; eq_refl))
  have hN2 := Blk.newA w2 (Value.int .i64 0).cells 3
  rw [hz2] at hN2
  refine X_doesU (does_store1 (t1 := 3) (b := w1.heap.size + 2) (o := 0) (v := nu 0) (by eq_refl) (by eq_refl) hN2 (by exact Nat.zero_lt_one) rfl rfl) ?_
  refine WL_turn (fun W => GivM w W c h (.slice Au ord.length cu) ord w1.heap.size []) ?_ ?_
  · have hcc := Chg.setRow (w2.alloc (.cells (Value.int .i64 0).cells 3)) (w1.heap.size + 2) ((Value.int .i64 0).cells.toList.set 0 (nu 0)).toArray (S := fun k => k = w1.heap.size + 2) rfl
    exact ⟨(hC2.al _).trans hcc fun k hk hh => by omega, (hI2.alloc _).chg hcc (by omega), (hR2.alloc _).chg hcc (by omega), hN2.set _, (hM2.chg (Chg.alloc _ _ none_) id id).chg hcc (by omega) (by omega), own_chg (hrow2.alloc _) hcc fun k hk hh => by have := (hrow.lt k hk).2; omega, hz1, fun k hk => (hrow.lt k hk).2⟩
  rintro w3 G3
  have hG3 := G3.cir
  have hni : (c.inputs.length : Int) ≤ 16384 := hln _ (by simp [Circ.lens])
  have hnl : (c.latches.length : Int) ≤ 16384 := hln _ (by simp [Circ.lens])
  have hna : (c.ands.length : Int) ≤ 16384 := hln _ (by simp [Circ.lens])
  repeat' (first
      | (apply WC_seqK; intro K hK)
      | (apply hK; clear hK)
      | (apply WC_region)
      | (apply WL_nil)
      | (apply thenQ_normal)
      | (apply WL_on0; eq_refl))
  refine X_pure (p_makeFunc (vs := [pt (w1.heap.size + 2), pt (w1.heap.size + 1)]) rfl) ?_
  repeat' (first
      | (apply WC_seqK; intro K hK)
      | (apply hK; clear hK)
      | (apply WC_block)
      | (apply WC_region)
      | (apply WL_nil)
      | (apply thenQ_normal)
      | (apply WL_on0; eq_refl)
      | (apply X_pv; eq_refl; first | exact trivial | omega)
      | (apply X_field; eq_refl)
      | (apply X_loadR; eq_refl; (first | assumption | (apply Blk.alloc; assumption) | apply Blk.new | apply Blk.newA | (apply Blk.alloc; first | apply Blk.newA | (apply Blk.alloc; first | assumption | apply Blk.newA))); eq_refl)
      | (apply X_len; eq_refl))
  refine WC_loop (fun i : Nat => [(1, pt w.heap.size), (2, pt (w.heap.size + 1)), (5, .slice Au ord.length cu), (7, pt (w1.heap.size + 1)), (8, pt (w1.heap.size + 2)), (9, .func (.func 101) #[] #[pt (w1.heap.size + 2), pt (w1.heap.size + 1)]), (42, .slice (h 1).1 c.inputs.length (h 1).2), (43, nu c.inputs.length), (44, nu i)])
    (fun i W => GivM w W c h (.slice Au ord.length cu) ord w1.heap.size (c.inputs.take i) ∧ i ≤ c.inputs.length) (fun i => c.inputs.length - i) 0 ⟨rfl, rfl, rfl, rfl, rfl, rfl, rfl, rfl, rfl, trivial⟩ ⟨G3, Nat.zero_le _⟩ ?_
  clear G3 hG3 hC2 hI2 hR2 hM2 hrow2 hz2 hN2
  rintro i w3 ⟨G3, hi⟩
  rcases Nat.lt_or_ge i c.inputs.length with hlt | hge
  · obtain ⟨p, hp, hpc⟩ := (H.chg G3.chg).inputs.one hlt (v := nu c.inputs[i]) rfl
    have hdb := (hTO.inp i hlt).1
    have hgc := G3.call (l := c.inputs[i]) (by unfold defBad at hdb; unfold rg; omega) (by simp; omega)
    rw [← List.take_succ_eq_append_getElem hlt] at hgc
    rw [hp]
    repeat' (first
      | (apply X_clo (f := 101); eq_refl; eq_refl; exact hgc; rintro v4 w4 G4)
      | (apply WC_seqK; intro K hK)
      | (apply hK; clear hK)
      | (apply WC_block)
      | (apply WC_region)
      | (apply WL_nil)
      | (apply thenQ_normal)
      | (apply blockQ_normal)
      | (apply WC_skip)
      | (apply WC_if_true; eq_refl)
      | (apply WL_on0; eq_refl)
      | (apply X_pv; eq_refl; first | exact trivial | omega)
      | (apply X_loadC; eq_refl; (first | assumption | (apply cel; first | assumption | (apply cel; assumption))))
      | (apply X_cmpT; eq_refl; eq_refl; omega)
      | (apply X_indexP; eq_refl; eq_refl; omega; omega))
    exact ⟨i + 1, ⟨rfl, rfl, rfl, rfl, rfl, rfl, by first | rfl | (rw [hp]; rfl), rfl, rfl, trivial⟩, ⟨G4, hlt⟩, by omega⟩
  obtain rfl : i = c.inputs.length := by omega
  rw [List.take_length] at G3
  have hG3 := G3.cir
  repeat' (first
      | (apply WC_seqK; intro K hK)
      | (apply hK; clear hK)
      | (clear hK; apply hK; clear hK)
      | (apply WC_block)
      | (apply WC_region)
      | (apply WL_nil)
      | (apply thenQ_normal)
      | (apply thenQ_exit)
      | (apply blockQ_hit)
      | (apply WC_exit)
      | (apply WC_if_false; eq_refl)
      | (apply WL_on0; eq_refl)
      | (apply X_pv; eq_refl; first | exact trivial | omega)
      | (apply X_field; eq_refl)
      | (apply X_loadR; eq_refl; (first | assumption | (apply Blk.alloc; assumption) | apply Blk.new | apply Blk.newA | (apply Blk.alloc; first | apply Blk.newA | (apply Blk.alloc; first | assumption | apply Blk.newA))); eq_refl)
      | (apply X_cmpF; eq_refl; eq_refl; omega)
      | (apply X_len; eq_refl))
  refine WC_loop (fun i : Nat => [(1, pt w.heap.size), (2, pt (w.heap.size + 1)), (5, .slice Au ord.length cu), (7, pt (w1.heap.size + 1)), (8, pt (w1.heap.size + 2)), (9, .func (.func 101) #[] #[pt (w1.heap.size + 2), pt (w1.heap.size + 1)]), (53, .slice (h 2).1 c.latches.length (h 2).2), (54, nu c.latches.length), (55, nu i)])
    (fun i W => GivM w W c h (.slice Au ord.length cu) ord w1.heap.size (c.inputs ++ (c.latches.map (·.1)).take i) ∧ i ≤ c.latches.length) (fun i => c.latches.length - i) 0 ⟨rfl, rfl, rfl, rfl, rfl, rfl, rfl, rfl, rfl, trivial⟩ ⟨by simpa using G3, Nat.zero_le _⟩ ?_
  clear G3 hG3
  rintro i w3 ⟨G3, hi⟩
  rcases Nat.lt_or_ge i c.latches.length with hlt | hge
  · obtain ⟨p, hp, hpc⟩ := (H.chg G3.chg).latches i hlt
    have hdb := (hTO.lat i hlt).1
    have hlt' : i < (c.latches.map (·.1)).length := by simpa using hlt
    have hge' : (c.latches.map (·.1))[i] = c.latches[i].1 := by simp
    rw [hp]
    repeat' (first
      | (apply X_loadAP (tcells c.latches[i]); eq_refl; eq_refl; exact hpc)
      | (apply WC_seqK; intro K hK)
      | (apply hK; clear hK)
      | (apply WC_block)
      | (apply WC_region)
      | (apply WL_nil)
      | (apply thenQ_normal)
      | (apply WC_skip)
      | (apply WC_if_true; eq_refl)
      | (apply WL_on0; eq_refl)
      | (apply X_cmpT; eq_refl; eq_refl; omega)
      | (apply X_indexP; eq_refl; eq_refl; omega; omega)
      | (apply X_alloc))
    refine X_doesU (does_storeA (t1 := 70) (vs := tcells c.latches[i]) (o := 0) (b := w3.heap.size) (by eq_refl) (by eq_refl) (Blk.newA w3 _ _) rfl (by exact Nat.le_refl 3) (by simp [tcells, Value.oneCell'])) ?_
    have hcc : Chg w3 ((w3.alloc (.cells #[nu 0, nu 0, nu 0] 70)).setRow w3.heap.size (tcells c.latches[i]).toArray) none_ := (Chg.alloc w3 _ none_).trans (Chg.setRow _ w3.heap.size _ (S := fun k => k = w3.heap.size) rfl) fun k hk h => by omega
    refine WL_turn (fun W => GivM w W c h (.slice Au ord.length cu) ord w1.heap.size (c.inputs ++ (c.latches.map (·.1)).take i) ∧ Blk W w3.heap.size 70 (tcells c.latches[i])) ⟨G3.same hcc, (Blk.newA w3 _ 70).set (tcells c.latches[i])⟩ ?_
    rintro w4 ⟨G4, hT4⟩
    have hgc := G4.call (l := c.latches[i].1) (by unfold defBad at hdb; unfold rg; omega) (by simp; omega)
    rw [List.append_assoc, ← hge', ← List.take_succ_eq_append_getElem hlt', hge'] at hgc
    repeat' (first
      | (apply X_clo (f := 101); eq_refl; eq_refl; exact hgc; rintro v5 w5 G5)
      | (apply hK; clear hK)
      | (apply WC_region)
      | (apply WL_nil)
      | (apply thenQ_normal)
      | (apply blockQ_normal)
      | (apply WL_on0; eq_refl)
      | (apply X_pv; eq_refl; first | exact trivial | omega)
      | (apply X_field; eq_refl)
      | (apply X_loadR; eq_refl; (first | assumption | (apply Blk.alloc; assumption) | apply Blk.new | apply Blk.newA | (apply Blk.alloc; first | apply Blk.newA | (apply Blk.alloc; first | assumption | apply Blk.newA))); eq_refl))
    exact ⟨i + 1, ⟨rfl, rfl, rfl, rfl, rfl, rfl, by first | rfl | (rw [hp]; rfl), rfl, rfl, trivial⟩, ⟨G5, hlt⟩, by omega⟩
  obtain rfl : i = c.latches.length := by omega
  rw [List.take_of_length_le (by simp)] at G3
  repeat' (first
      | (apply WC_seqK; intro K hK)
      | (apply hK; clear hK)
      | (clear hK; apply hK; clear hK)
      | (apply WC_block)
      | (apply WC_region)
      | (apply WL_nil)
      | (apply thenQ_normal)
      | (apply thenQ_exit)
      | (apply blockQ_hit)
      | (apply WC_exit)
      | (apply WC_if_false; eq_refl)
      | (apply WL_on0; eq_refl)
      | (apply X_pv; eq_refl; first | exact trivial | omega)
      | (apply X_cmpF; eq_refl; eq_refl; omega)
      | (apply X_len; eq_refl))
  refine WC_loop (fun i : Nat => [(1, pt w.heap.size), (2, pt (w.heap.size + 1)), (5, .slice Au ord.length cu), (7, pt (w1.heap.size + 1)), (8, pt (w1.heap.size + 2)), (9, .func (.func 101) #[] #[pt (w1.heap.size + 2), pt (w1.heap.size + 1)]), (64, .slice Au ord.length cu), (65, nu ord.length), (66, nu i)])
    (fun i W => GivM w W c h (.slice Au ord.length cu) ord w1.heap.size (c.inputs ++ c.latches.map (·.1) ++ (ord.map fun i => (andAt c i).1).take i) ∧ i ≤ ord.length) (fun i => ord.length - i) 0 ⟨rfl, rfl, rfl, rfl, rfl, rfl, rfl, rfl, rfl, trivial⟩ ⟨by simpa using G3, Nat.zero_le _⟩ ?_
  clear G3
  have hord : ∀ x ∈ ord, ∃ hx : x.toNat < c.ands.length, ((x.toNat : Nat) : Int) = x ∧ andAt c x = c.ands[x.toNat] := fun x hx => by
    have := hall.told.all x hx
    unfold rg at this
    have h1 : x.toNat < c.ands.length := by omega
    exact ⟨h1, by omega, by unfold andAt; simp [h1]⟩
  rintro i w3 ⟨G3, hi⟩
  have hG3 := G3.cir
  rcases Nat.lt_or_ge i ord.length with hlt | hge
  · obtain ⟨p, rfl, hpc⟩ := (rowI G3.row).one hlt (v := nu ord[i]) rfl
    obtain ⟨hx1, hx2, hx3⟩ := hord _ (List.getElem_mem hlt)
    obtain ⟨p8, hp8, hac⟩ := (H.chg G3.chg).ands ord[i].toNat hx1
    have ha0 := hac 0 (nu c.ands[ord[i].toNat].1) rfl
    rw [show ((ord[i].toNat : Nat) : Int).toNat = ord[i].toNat by omega] at ha0
    have k8 : (ccells c h)[0 + 8]? = some (.slice (some p8) c.ands.length (h 8).2) := by rw [← hp8]; rfl
    have hdb := (hTO.gat ord[i].toNat hx1).1
    have hlt' : i < (ord.map fun i => (andAt c i).1).length := by simpa using hlt
    have hge' : (ord.map fun i => (andAt c i).1)[i] = c.ands[ord[i].toNat].1 := by simp [hx3]
    have hgc := G3.call (l := c.ands[ord[i].toNat].1) (by unfold defBad at hdb; unfold rg; omega) (by simp; omega)
    rw [List.append_assoc, ← hge', ← List.take_succ_eq_append_getElem hlt', hge'] at hgc
    generalize hxx : ord[i] = x at *
    repeat' (first
      | (apply X_loadR; eq_refl; exact hG3; exact k8)
      | (apply X_clo (f := 101); eq_refl; eq_refl; exact hgc; rintro v5 w5 G5)
      | (apply WC_seqK; intro K hK)
      | (apply hK; clear hK)
      | (apply WC_block)
      | (apply WC_region)
      | (apply WL_nil)
      | (apply thenQ_normal)
      | (apply blockQ_normal)
      | (apply WC_skip)
      | (apply WC_if_true; eq_refl)
      | (apply WL_on0; eq_refl)
      | (apply X_pv; eq_refl; first | exact trivial | omega)
      | (apply X_field; eq_refl)
      | (apply X_loadC; eq_refl; (first | assumption | (apply cel; first | assumption | (apply cel; assumption))))
      | (apply X_cmpT; eq_refl; eq_refl; omega)
      | (apply X_indexP; eq_refl; eq_refl; omega; omega)
      | (apply X_fieldP; eq_refl))
    exact ⟨i + 1, ⟨rfl, rfl, rfl, rfl, rfl, rfl, rfl, rfl, rfl, trivial⟩, ⟨G5, hlt⟩, by omega⟩
  obtain rfl : i = ord.length := by omega
  rw [List.take_of_length_le (by simp)] at G3
  have hks : c.inputs ++ c.latches.map (·.1) ++ (ord.map fun i => (andAt c i).1) = defsOf c ord := rfl
  rw [hks] at G3
  repeat' (first
      | (apply WC_seqK; intro K hK)
      | (apply hK; clear hK)
      | (clear hK; apply hK; clear hK)
      | (apply WC_region)
      | (apply WL_nil)
      | (apply thenQ_normal)
      | (apply thenQ_exit)
      | (apply blockQ_hit)
      | (apply WC_exit)
      | (apply WC_if_false; eq_refl)
      | (apply WL_on0; eq_refl)
      | (apply X_cmpF; eq_refl; eq_refl; omega))
  have hfit := fits_of hsz hjs
  refine X_pure (p_makeFunc (vs := [pt (w1.heap.size + 1)]) rfl) ?_
  repeat' (first
      | (apply WL_on0; eq_refl)
      | (apply X_alloc))
  refine X_doesU (does_store1 (t1 := 127) (b := w3.heap.size) (o := 0) (v := .func (.func 102) #[] #[pt (w1.heap.size + 1)]) (by eq_refl) (by eq_refl) (Blk.newA w3 _ _) (by exact Nat.zero_lt_one) rfl rfl) ?_
  refine WL_turn (fun W => GivM w W c h (.slice Au ord.length cu) ord w1.heap.size (defsOf c ord) ∧ Blk W w3.heap.size 127 [.func (.func 102) #[] #[pt (w1.heap.size + 1)]]) ?_ ?_
  · refine ⟨G3.same ((Chg.alloc w3 _ none_).trans (Chg.setRow _ w3.heap.size _ (S := fun k => k = w3.heap.size) rfl) fun k hk h => by omega), ?_⟩
    exact (Blk.newA w3 _ 127).set _
  rintro w4 ⟨G4, hV4⟩
  have hlb : w1.heap.size + 2 < w3.heap.size := G3.next.lt
  clear G3 hG3
  have hG4 := G4.cir
  repeat' (first
      | (apply WC_seqK; intro K hK)
      | (apply hK; clear hK)
      | (apply WC_region)
      | (apply WL_nil)
      | (apply thenQ_normal)
      | (apply WL_on0; eq_refl))
  refine X_pure (p_makeFunc (vs := [pt w3.heap.size]) rfl) ?_
  have hcp := Copy_cv (H.chg G4.chg) hfit
  repeat' (first
      | (apply X_fn; eq_refl; exact hcp; rintro _ w5 ⟨h1, js1, rfl, hown5, hC5⟩)
      | (apply WC_seqK; intro K hK)
      | (apply hK; clear hK)
      | (apply WC_region)
      | (apply WL_nil)
      | (apply thenQ_normal)
      | (apply WL_on0; eq_refl)
      | (apply X_pv; eq_refl; first | exact trivial | omega)
      | (apply X_loadW; eq_refl; (first | assumption | (apply Blk.alloc; assumption) | apply Blk.new | apply Blk.newA | (apply Blk.alloc; first | apply Blk.newA | (apply Blk.alloc; first | assumption | apply Blk.newA))); eq_refl)
      | (apply X_alloc))
  refine X_doesU (does_storeA (t1 := 51) (vs := ccells c h1) (o := 0) (b := w5.heap.size) (by eq_refl) (by eq_refl) (Blk.newA w5 _ _) rfl (by exact Nat.le_refl 11) (by simp [ccells, Value.oneCell'])) ?_
  refine WL_turn (fun W => RB w W c h (.slice Au ord.length cu) ord (mapOf c.max (defsOf c ord)) w1.heap.size w3.heap.size w5.heap.size (ccells c h1) (cirRows c h1 js1 js1 c.justice.length) ∧ Blk W (w1.heap.size + 2) 3 [nu (2 * (defsOf c ord).length)]) ?_ ?_
  · have hcc : Chg w5 ((w5.alloc (.cells Zc.toArray 51)).setRow w5.heap.size (ccells c h1).toArray) none_ := (Chg.alloc w5 _ none_).trans (Chg.setRow _ w5.heap.size _ (S := fun k => k = w5.heap.size) rfl) fun k hk h => by omega
    have hC6 := hC5.trans hcc fun _ _ h => h
    have G6 := G4.same hC6
    have hv5 := (hV4.chg hC5 id).lt
    have hb4 := hV4.lt
    exact ⟨⟨G6.chg, G6.cir, G6.res, G6.map, G6.row, hV4.chg hC6 id, (Blk.newA w5 Zc.toArray 51).set (ccells c h1), (Rows.same hown5 hcc).mono (by omega), fun i k hk => by have := (Rows.lt hown5 hk).2; omega, G6.lay.1, G6.lay.2, hlb, hv5⟩, G6.next⟩
  rintro w6 ⟨G6, hN6⟩
  clear G4 hG4 hV4 hown5
  have hO6 := G6.out
  repeat' (first
      | (apply WC_seqK; intro K hK)
      | (apply hK; clear hK)
      | (apply WC_region)
      | (apply WL_nil)
      | (apply thenQ_normal)
      | (apply WL_on0; eq_refl)
      | (apply X_pv; eq_refl; first | exact trivial | omega)
      | (apply X_field; eq_refl)
      | (apply X_loadR; eq_refl; (first | assumption | (apply Blk.alloc; assumption) | apply Blk.new | apply Blk.newA | (apply Blk.alloc; first | apply Blk.newA | (apply Blk.alloc; first | assumption | apply Blk.newA))); eq_refl))
  have hdl : (defsOf c ord).length ≤ 50000 := by simp [defsOf]; omega
  have hdr : ∀ k ∈ defsOf c ord, rg (c.max + 1).toNat (k / 2) := by
    intro k hk
    simp only [defsOf, List.mem_append] at hk
    rcases hk with (hk | hk) | hk
    · obtain ⟨j, hj, rfl⟩ := List.mem_iff_getElem.1 hk
      have := (hTO.inp j hj).1
      unfold defBad at this; unfold rg; omega
    · obtain ⟨x, hx, rfl⟩ := List.mem_map.1 hk
      obtain ⟨j, hj, rfl⟩ := List.mem_iff_getElem.1 hx
      have := (hTO.lat j hj).1
      unfold defBad at this; unfold rg; omega
    · obtain ⟨x, hx, rfl⟩ := List.mem_map.1 hk
      obtain ⟨hx1, hx2, hx3⟩ := hord x hx
      have := (hTO.gat x.toNat hx1).1
      rw [hx3]
      unfold defBad at this; unfold rg; omega
  have hMO := mapOf_ok hm0 _ hdl hdr
  have hML := mapOf_len c.max (defsOf c ord)
  have hur : ∀ x, useOk c (tabM c) x → rg (mapOf c.max (defsOf c ord)).length (x / 2) := fun x hx => by rw [hML]; obtain ⟨h1, h2, _⟩ := hx; unfold rg; omega
  have hir : ∀ x ∈ c.inputs, rg (mapOf c.max (defsOf c ord)).length (x / 2) := fun x hx => by rw [hML]; exact hdr x (by simp [defsOf, hx])
  generalize hto : mapOf c.max (defsOf c ord) = to at *
  generalize hlb' : w3.heap.size = lb at *
  generalize htr : w1.heap.size = tr at *
  generalize hob : w5.heap.size = ob at *
  refine X_doesU (does_store1 (t1 := 51) (b := ob) (o := 0 + 0) (v := nu (2 * (defsOf c ord).length / 2)) (by eq_refl) (by eq_refl) hO6 (by simp [ccells]) rfl rfl) ?_
  have G7 := G6.store ((ccells c h1).set (0 + 0) (nu (2 * (defsOf c ord).length / 2)))
  rw [show (2 * ((defsOf c ord).length : Int) / 2) = ((defsOf c ord).length : Int) by omega] at *
  clear hO6
  generalize w6.setRow ob ((ccells c h1).set (0 + 0) (nu (defsOf c ord).length)).toArray = w7 at *
  repeat' (first
      | (apply WC_seqK; intro K hK)
      | (apply hK; clear hK)
      | (apply WL_nil)
      | (apply thenQ_normal))
  refine WC_draws [(0, true), (1, true), (2, true), (4, true), (5, true), (6, true), (8, true), (9, true), (10, true), (12, true), (13, true), (14, true), (16, true), (17, true), (18, true), (3, false), (20, true), (7, false), (11, false), (15, false), (19, false), (21, false), (22, true), (23, false), (24, true), (25, false), (26, true), (27, false), (28, true), (29, false)] (fun W => Blk W w.heap.size 51 (ccells c h)) mixed (by kernel_rfl) (by kernel_rfl) ?_
  have G8 := G7.same (Chg.drew w7 none_)
  generalize w7.drew = w8 at *
  have hS8 := G8.cir
  have hcl8 := lits_cv' (c := (h 1).2) G8.map hMO G8.lit (H.chg G8.chg).inputs (by have := hln (c.inputs.length : Int) (by simp [Circ.lens]); omega) hir
  repeat' (first
      | (apply O_clo (f := 103); eq_refl; eq_refl; exact hcl8; rintro v9 w9 ⟨hr9, hE9⟩; refine ⟨fun _ => hS8.chg hE9 id, ?_⟩)
      | (apply WS_next; eq_refl)
      | (apply WO_on0; eq_refl)
      | (apply O_pv; eq_refl; (first | exact trivial | omega); (first | assumption | exact trivial))
      | (apply O_field; eq_refl; (first | assumption | exact trivial))
      | (apply O_loadR; eq_refl; (first | (intro _ h; exact h) | (intro _ h; exact h.1) | (intro _ h; exact h.2) | (intro _ h; exact h.2.1) | (intro _ h; exact h.2.2) | (intro _ h; exact h.2.2.1) | (intro _ h; exact h.2.2.2)); eq_refl; (first | assumption | exact trivial)))
  obtain ⟨A901, c901, rfl⟩ := row_form' hr9
  have G9 := G8.add 1 ⟨.slice A901 (c.inputs.map (litM to)).length c901, 3, 1, (c.inputs.map (litM to)).length, (c.inputs.map (litM to)).flatMap icell⟩ hE9 hr9
  have hS9 := G9.cir
  have hcl9 := lits_cv' (c := (h 3).2) G9.map hMO G9.lit (H.chg G9.chg).outputs (by have := hln (c.outputs.length : Int) (by simp [Circ.lens]); omega) (fun x hx => hur x (hUA.outputs x hx))
  repeat' (first
      | (apply O_clo (f := 103); eq_refl; eq_refl; exact hcl9; rintro v10 w10 ⟨hr10, hE10⟩; refine ⟨fun _ => hS9.chg hE10 id, ?_⟩)
      | (apply WS_next; eq_refl)
      | (apply WO_on0; eq_refl)
      | (apply O_field; eq_refl; (first | assumption | exact trivial)))
  obtain ⟨A903, c903, rfl⟩ := row_form' hr10
  have G10 := G9.add 3 ⟨.slice A903 (c.outputs.map (litM to)).length c903, 3, 1, (c.outputs.map (litM to)).length, (c.outputs.map (litM to)).flatMap icell⟩ hE10 hr10
  have hS10 := G10.cir
  have hcl10 := lits_cv' (c := (h 4).2) G10.map hMO G10.lit (H.chg G10.chg).bads (by have := hln (c.bads.length : Int) (by simp [Circ.lens]); omega) (fun x hx => hur x (hUA.bads x hx))
  repeat' (first
      | (apply O_clo (f := 103); eq_refl; eq_refl; exact hcl10; rintro v11 w11 ⟨hr11, hE11⟩; refine ⟨fun _ => hS10.chg hE11 id, ?_⟩)
      | (apply WS_next; eq_refl)
      | (apply WO_on0; eq_refl))
  obtain ⟨A904, c904, rfl⟩ := row_form' hr11
  have G11 := G10.add 4 ⟨.slice A904 (c.bads.map (litM to)).length c904, 3, 1, (c.bads.map (litM to)).length, (c.bads.map (litM to)).flatMap icell⟩ hE11 hr11
  have hS11 := G11.cir
  have hcl11 := lits_cv' (c := (h 5).2) G11.map hMO G11.lit (H.chg G11.chg).constraints (by have := hln (c.constraints.length : Int) (by simp [Circ.lens]); omega) (fun x hx => hur x (hUA.constraints x hx))
  repeat' (first
      | (apply O_clo (f := 103); eq_refl; eq_refl; exact hcl11; rintro v12 w12 ⟨hr12, hE12⟩; refine ⟨fun _ => hS11.chg hE12 id, ?_⟩)
      | (apply WS_next; eq_refl)
      | (apply WO_on0; eq_refl))
  obtain ⟨A905, c905, rfl⟩ := row_form' hr12
  have G12 := G11.add 5 ⟨.slice A905 (c.constraints.map (litM to)).length c905, 3, 1, (c.constraints.map (litM to)).length, (c.constraints.map (litM to)).flatMap icell⟩ hE12 hr12
  have hS12 := G12.cir
  have hcl12 := lits_cv' (c := (h 7).2) G12.map hMO G12.lit (H.chg G12.chg).fairness (by have := hln (c.fairness.length : Int) (by simp [Circ.lens]); omega) (fun x hx => hur x (hUA.fairness x hx))
  repeat' (first
      | (apply O_clo (f := 103); eq_refl; eq_refl; exact hcl12; rintro v13 w13 ⟨hr13, hE13⟩; refine ⟨fun _ => hS12.chg hE13 id, ?_⟩)
      | (apply WS_next; eq_refl)
      | (apply WO_on0; eq_refl))
  obtain ⟨A907, c907, rfl⟩ := row_form' hr13
  have G13 := G12.add 7 ⟨.slice A907 (c.fairness.map (litM to)).length c907, 3, 1, (c.fairness.map (litM to)).length, (c.fairness.map (litM to)).flatMap icell⟩ hE13 hr13
  have hS13 := G13.cir
  skip
  have G14 := G13.store (((ccells c h1).set (0 + 0) (nu (defsOf c ord).length)).set (0 + 1) (.slice A901 (c.inputs.map (litM to)).length c901))
  refine O_doesU (does_store1 (t1 := 51) (b := ob) (o := 0 + 1) (v := (.slice A901 (c.inputs.map (litM to)).length c901)) (by eq_refl) (by eq_refl) G13.out (by simp [ccells]) rfl rfl) (fun _ => G14.cir) ?_
  generalize w13.setRow ob (((ccells c h1).set (0 + 0) (nu (defsOf c ord).length)).set (0 + 1) (.slice A901 (c.inputs.map (litM to)).length c901)).toArray = w14 at *
  have hS14 := G14.cir
  repeat' (first
      | (apply WS_next; eq_refl)
      | (apply WO_on0; eq_refl)
      | (apply O_field; eq_refl; (first | assumption | exact trivial)))
  have G15 := G14.store ((((ccells c h1).set (0 + 0) (nu (defsOf c ord).length)).set (0 + 1) (.slice A901 (c.inputs.map (litM to)).length c901)).set (0 + 3) (.slice A903 (c.outputs.map (litM to)).length c903))
  refine O_doesU (does_store1 (t1 := 51) (b := ob) (o := 0 + 3) (v := (.slice A903 (c.outputs.map (litM to)).length c903)) (by eq_refl) (by eq_refl) G14.out (by simp [ccells]) rfl rfl) (fun _ => G15.cir) ?_
  generalize w14.setRow ob ((((ccells c h1).set (0 + 0) (nu (defsOf c ord).length)).set (0 + 1) (.slice A901 (c.inputs.map (litM to)).length c901)).set (0 + 3) (.slice A903 (c.outputs.map (litM to)).length c903)).toArray = w15 at *
  have hS15 := G15.cir
  repeat' (first
      | (apply WS_next; eq_refl)
      | (apply WO_on0; eq_refl)
      | (apply O_field; eq_refl; (first | assumption | exact trivial)))
  have G16 := G15.store (((((ccells c h1).set (0 + 0) (nu (defsOf c ord).length)).set (0 + 1) (.slice A901 (c.inputs.map (litM to)).length c901)).set (0 + 3) (.slice A903 (c.outputs.map (litM to)).length c903)).set (0 + 4) (.slice A904 (c.bads.map (litM to)).length c904))
  refine O_doesU (does_store1 (t1 := 51) (b := ob) (o := 0 + 4) (v := (.slice A904 (c.bads.map (litM to)).length c904)) (by eq_refl) (by eq_refl) G15.out (by simp [ccells]) rfl rfl) (fun _ => G16.cir) ?_
  generalize w15.setRow ob (((((ccells c h1).set (0 + 0) (nu (defsOf c ord).length)).set (0 + 1) (.slice A901 (c.inputs.map (litM to)).length c901)).set (0 + 3) (.slice A903 (c.outputs.map (litM to)).length c903)).set (0 + 4) (.slice A904 (c.bads.map (litM to)).length c904)).toArray = w16 at *
  have hS16 := G16.cir
  repeat' (first
      | (apply WS_next; eq_refl)
      | (apply WO_on0; eq_refl)
      | (apply O_field; eq_refl; (first | assumption | exact trivial)))
  have G17 := G16.store ((((((ccells c h1).set (0 + 0) (nu (defsOf c ord).length)).set (0 + 1) (.slice A901 (c.inputs.map (litM to)).length c901)).set (0 + 3) (.slice A903 (c.outputs.map (litM to)).length c903)).set (0 + 4) (.slice A904 (c.bads.map (litM to)).length c904)).set (0 + 5) (.slice A905 (c.constraints.map (litM to)).length c905))
  refine O_doesU (does_store1 (t1 := 51) (b := ob) (o := 0 + 5) (v := (.slice A905 (c.constraints.map (litM to)).length c905)) (by eq_refl) (by eq_refl) G16.out (by simp [ccells]) rfl rfl) (fun _ => G17.cir) ?_
  generalize w16.setRow ob ((((((ccells c h1).set (0 + 0) (nu (defsOf c ord).length)).set (0 + 1) (.slice A901 (c.inputs.map (litM to)).length c901)).set (0 + 3) (.slice A903 (c.outputs.map (litM to)).length c903)).set (0 + 4) (.slice A904 (c.bads.map (litM to)).length c904)).set (0 + 5) (.slice A905 (c.constraints.map (litM to)).length c905)).toArray = w17 at *
  have hS17 := G17.cir
  repeat' (first
      | (apply WS_next; eq_refl)
      | (apply WO_on0; eq_refl)
      | (apply O_field; eq_refl; (first | assumption | exact trivial)))
  have G18 := G17.store (((((((ccells c h1).set (0 + 0) (nu (defsOf c ord).length)).set (0 + 1) (.slice A901 (c.inputs.map (litM to)).length c901)).set (0 + 3) (.slice A903 (c.outputs.map (litM to)).length c903)).set (0 + 4) (.slice A904 (c.bads.map (litM to)).length c904)).set (0 + 5) (.slice A905 (c.constraints.map (litM to)).length c905)).set (0 + 7) (.slice A907 (c.fairness.map (litM to)).length c907))
  refine O_doesU (does_store1 (t1 := 51) (b := ob) (o := 0 + 7) (v := (.slice A907 (c.fairness.map (litM to)).length c907)) (by eq_refl) (by eq_refl) G17.out (by simp [ccells]) rfl rfl) (fun _ => G18.cir) ?_
  generalize w17.setRow ob (((((((ccells c h1).set (0 + 0) (nu (defsOf c ord).length)).set (0 + 1) (.slice A901 (c.inputs.map (litM to)).length c901)).set (0 + 3) (.slice A903 (c.outputs.map (litM to)).length c903)).set (0 + 4) (.slice A904 (c.bads.map (litM to)).length c904)).set (0 + 5) (.slice A905 (c.constraints.map (litM to)).length c905)).set (0 + 7) (.slice A907 (c.fairness.map (litM to)).length c907)).toArray = w18 at *
  have hS18 := G18.cir
  repeat' (first
      | (apply WC_seqK; intro K hK)
      | (apply hK; clear hK)
      | (apply WC_block)
      | (apply WC_region)
      | (apply WL_nil)
      | (apply thenQ_normal)
      | (apply WS_nil)
      | (apply WL_on0; eq_refl)
      | (apply X_pv; eq_refl; first | exact trivial | omega)
      | (apply X_field; eq_refl)
      | (apply X_loadR; eq_refl; (first | assumption | (apply Blk.alloc; assumption) | apply Blk.new | apply Blk.newA | (apply Blk.alloc; first | apply Blk.newA | (apply Blk.alloc; first | assumption | apply Blk.newA))); eq_refl)
      | (apply X_len; eq_refl))
  obtain ⟨h2, G19⟩ : ∃ h2 : Hd, RB w w18 c h (.slice Au ord.length cu) ord to tr lb ob (ccells (ren1 c to (defsOf c ord).length) h2) (cirRows (ren1 c to (defsOf c ord).length) h2 js1 js1 c.justice.length) := by
    refine ⟨fun | 1 => (A901, c901) | 3 => (A903, c903) | 4 => (A904, c904) | 5 => (A905, c905) | 7 => (A907, c907) | k => h1 k, cast (congrArg (RB w w18 c h (.slice Au ord.length cu) ord to tr lb ob _) ?_) G18⟩
    funext k
    rcases Nat.lt_or_ge k 11 with hlt | hge
    · match k with
      | 0 | 1 | 2 | 3 | 4 | 5 | 6 | 7 | 8 | 9 | 10 => rfl
    · obtain ⟨m, rfl⟩ : ∃ m, k = m + 11 := ⟨k - 11, by omega⟩
      rfl
  clear hS8 hS9 hS10 hS11 hS12 hS13 hS14 hS15 hS16 hS17 hS18 hcl8 hcl9 hcl10 hcl11 hcl12 G6 G7 G8 G9 G10 G11 G12 G13 G14 G15 G16 G17 G18
  have hG19 := G19.cir
  skip
  have hnj : (c.justice.length : Int) ≤ 16384 := hln _ (by simp [Circ.lens])
  have hjj : ∀ l ∈ c.justice, ∀ x ∈ l, rg to.length (x / 2) := fun l hl x hx => hur x (hUA.justice l hl x hx)
  refine WC_loop (fun s : Nat × Hd => [(1, pt w.heap.size), (2, pt (w.heap.size + 1)), (5, .slice Au ord.length cu), (7, pt (tr + 1)), (16, pt lb), (17, .func (.func 103) #[] #[pt lb]), (18, pt ob), (112, .slice (h 6).1 c.justice.length (h 6).2), (113, nu c.justice.length), (114, nu s.1)])
    (fun s W => RB w W c h (.slice Au ord.length cu) ord to tr lb ob (ccells (ren1 c to (defsOf c ord).length) h2) (jRows (ren1 c to (defsOf c ord).length) h2 js1 s.2 to s.1) ∧ s.1 ≤ c.justice.length) (fun s => c.justice.length - s.1) (0, js1) ⟨rfl, rfl, rfl, rfl, rfl, rfl, rfl, rfl, rfl, rfl, trivial⟩ ⟨by rw [jRows_zero]; exact G19, Nat.zero_le _⟩ ?_
  clear G19 hG19
  rintro ⟨i, jn⟩ w19 ⟨G, hi⟩
  simp only at G hi
  rcases Nat.lt_or_ge i c.justice.length with hlt | hge
  · obtain ⟨p, hp, hpc⟩ := (H.chg G.chg).justice i hlt
    have hjl := hfit.each _ (List.getElem_mem hlt)
    have hjm : c.justice[i].length ≤ 1000000 := by have := sumL_mem (List.getElem_mem hlt); omega
    have hgd : c.justice.getD i [] = c.justice[i] := by simp [hlt]
    have hcl := lits_cv' (c := (js i).2) (G.same (Chg.drew w19 none_)).map hMO G.lit ((H.chg (G.chg.dr)).each i hlt) hjm (hjj _ (List.getElem_mem hlt))
    obtain ⟨g, hg1, hg2⟩ := G.rows.block 6 (n := c.justice.length) (a := (h2 6).1) (c := (h2 6).2) rfl rfl (by omega)
    have k6 : (ccells (ren1 c to (defsOf c ord).length) h2)[0 + 6]? = some (.slice (some ⟨g, 0, none⟩) c.justice.length (h2 6).2) := by rw [← hg1]; rfl
    rw [hp]
    repeat' (first
      | (apply WC_seqK; intro K hK)
      | (apply hK; clear hK)
      | (apply WC_block)
      | (apply WC_region)
      | (apply WL_nil)
      | (apply thenQ_normal)
      | (apply WC_skip)
      | (apply WC_if_true; eq_refl)
      | (apply WL_on0; eq_refl)
      | (apply X_pv; eq_refl; first | exact trivial | omega)
      | (apply X_loadC; eq_refl; (first | assumption | (apply cel; first | assumption | (apply cel; assumption))))
      | (apply X_cmpT; eq_refl; eq_refl; omega)
      | (apply X_indexP; eq_refl; eq_refl; omega; omega))
    refine WC_draws [(0, true), (1, true), (2, true), (3, true), (4, true), (5, false), (6, true), (7, false)] (fun W => Blk W ob 51 (ccells (ren1 c to (defsOf c ord).length) h2)) mixed (by kernel_rfl) (by kernel_rfl) ?_
    have hS : Blk w19.drew ob 51 (ccells (ren1 c to (defsOf c ord).length) h2) := G.out
    repeat' (first
      | (apply O_loadR; eq_refl; (intro _ h; exact h); exact k6; assumption)
      | (apply O_clo (f := 103); eq_refl; eq_refl; exact hcl; rintro v20 w20 ⟨hr20, hE20⟩; have hS2 := hS.chg hE20 id; refine ⟨fun _ => hS2, ?_⟩)
      | (apply WS_next; eq_refl)
      | (apply WO_on0; eq_refl)
      | (apply O_pv; eq_refl; (first | exact trivial | omega); (first | assumption | exact trivial))
      | (apply O_field; eq_refl; (first | assumption | exact trivial))
      | (apply O_index; eq_refl; eq_refl; omega; omega; (first | assumption | exact trivial)))
    obtain ⟨A2, c2, rfl⟩ := row_form' hr20
    rw [List.length_map] at hr20
    have G2 := (G.same (Chg.drew w19 none_)).add (i + 11) ⟨.slice A2 (c.justice.getD i []).length c2, 3, 1, (c.justice.getD i []).length, ((c.justice.getD i []).map (litM to)).flatMap icell⟩ hE20 (by rw [hgd]; exact hr20)
    have h62 : w20.ownsRow (lb + 1) 45 1 (.slice (some ⟨g, 0, none⟩) c.justice.length (h2 6).2) c.justice.length (cirRows (ren1 c to (defsOf c ord).length) h2 js1 jn i 6).cells := by
      have := G2.rows.own 6
      unfold upd at this
      rw [if_neg (by omega)] at this
      rw [← hg1]
      exact this
    obtain ⟨cur, hB, hx, hcl', hgb, hst⟩ := own_set h62
    have G3 := G2.write 6 (cirRows (ren1 c to (defsOf c ord).length) h2 js1 (setHd jn i (A2, c2)) (i + 1) 6) (g := g) (cur := cur.set (0 + (i : Int).toNat * 1) (.slice A2 c.justice[i].length c2)) (by unfold upd; rw [if_neg (by omega)]; exact hg2) (by unfold upd; rw [if_neg (by omega)]; rfl) (by
      show World.ownsRow _ _ 45 1 (.slice (h2 6).1 c.justice.length (h2 6).2) c.justice.length _
      rw [hg1, jrow_step (ren1 c to (defsOf c ord).length) h2 js1 jn i (A2, c2) hlt, hx]
      have := hst (cur.set (0 + (i : Int).toNat * 1) (.slice A2 c.justice[i].length c2)) (by simp)
      rw [take_set, show 0 + (i : Int).toNat * 1 = i by omega] at this
      rw [show 0 + (i : Int).toNat * 1 = i by omega]
      show World.ownsRow _ _ _ _ _ _ (List.set _ i (.slice A2 (c.justice.getD i []).length c2))
      rw [hgd]
      exact this)
    have hst' := jRows_step (ren1 c to (defsOf c ord).length) h2 js1 jn to i (A2, c2)
    dsimp only at hst'
    rw [show (ren1 c to (defsOf c ord).length).justice = c.justice from rfl] at hst'
    rw [hst'] at G3
    refine O_doesU (does_store1 (t1 := 45) (b := g) (o := 0 + (i : Int).toNat * 1) (v := .slice A2 (c.justice[i].map (litM to)).length c2) (by eq_refl) (by eq_refl) hB (by omega) rfl rfl) (fun _ => ?_) ?_
    · rw [List.length_map]; exact G3.out
    rw [List.length_map]
    repeat' (first
      | (apply hK; clear hK)
      | (apply WC_region)
      | (apply WL_nil)
      | (apply thenQ_normal)
      | (apply blockQ_normal)
      | (apply WS_nil)
      | (apply WL_on0; eq_refl)
      | (apply X_pv; eq_refl; first | exact trivial | omega))
    skip
    exact ⟨(i + 1, setHd jn i (A2, c2)), ⟨rfl, rfl, rfl, rfl, rfl, rfl, rfl, by first | rfl | (rw [hp]; rfl), rfl, rfl, trivial⟩, ⟨G3, hlt⟩, by simp only; omega⟩
  obtain rfl : i = c.justice.length := by omega
  rw [show c.justice.length = (ren1 c to (defsOf c ord).length).justice.length from rfl, jRows_all] at G
  have hG := G.cir
  repeat' (first
      | (apply WC_seqK; intro K hK)
      | (apply hK; clear hK)
      | (clear hK; apply hK; clear hK)
      | (apply WC_block)
      | (apply WC_region)
      | (apply WL_nil)
      | (apply thenQ_normal)
      | (apply thenQ_exit)
      | (apply blockQ_hit)
      | (apply WC_exit)
      | (apply WC_if_false; eq_refl)
      | (apply WL_on0; eq_refl)
      | (apply X_pv; eq_refl; first | exact trivial | omega)
      | (apply X_field; eq_refl)
      | (apply X_loadR; eq_refl; (first | assumption | (apply Blk.alloc; assumption) | apply Blk.new | apply Blk.newA | (apply Blk.alloc; first | apply Blk.newA | (apply Blk.alloc; first | assumption | apply Blk.newA))); eq_refl)
      | (apply X_cmpF; eq_refl; eq_refl; omega)
      | (apply X_len; eq_refl))
  have G := (show RB w w19 c h (.slice Au ord.length cu) ord to tr lb ob (ccells (ren2 c to (defsOf c ord).length) h2) (cirRows (ren2 c to (defsOf c ord).length) h2 jn jn (ren2 c to (defsOf c ord).length).justice.length) from by rw [← ren2_cells]; exact G)
  generalize hc2 : ren2 c to (defsOf c ord).length = c2 at *
  have hl2 : c2.latches = c.latches := by rw [← hc2]; rfl
  have ha2 : c2.ands = c.ands := by rw [← hc2]; rfl
  generalize hF2 : cirRows c2 h2 jn jn c2.justice.length = F2 at *
  have hF22 : F2 2 = ⟨slc h2 2 c2.latches.length, 70, 3, c2.latches.length, c2.latches.flatMap tcells⟩ := by rw [← hF2]; rfl
  refine WC_loop (fun i : Nat => [(1, pt w.heap.size), (2, pt (w.heap.size + 1)), (5, .slice Au ord.length cu), (7, pt (tr + 1)), (16, pt lb), (18, pt ob), (128, .slice (h 2).1 c.latches.length (h 2).2), (129, nu c.latches.length), (130, nu i)])
    (fun i W => RB w W c h (.slice Au ord.length cu) ord to tr lb ob (ccells c2 h2) (tRows F2 2 (slc h2 2 c.latches.length) 70 ((c.latches.take i).map (renLatch to) ++ c.latches.drop i)) ∧ i ≤ c.latches.length) (fun i => c.latches.length - i) 0 ⟨rfl, rfl, rfl, rfl, rfl, rfl, rfl, rfl, rfl, trivial⟩ ⟨by
      unfold tRows
      rw [upd_self]
      · exact G
      · rw [hF22, hl2]; simp, Nat.zero_le _⟩ ?_
  clear G hG
  rintro i w19 ⟨G, hi⟩
  rcases Nat.lt_or_ge i c.latches.length with hlt | hge
  · obtain ⟨p, hp, hpc⟩ := (H.chg G.chg).latches i hlt
    have hdb := (hTO.lat i hlt).1
    have hrb := (hTO.lat i hlt).2.2
    have hnx := hur _ (hUA.next _ (List.getElem_mem hlt))
    have hll : ((c.latches.take i).map (renLatch to) ++ c.latches.drop i).length = c.latches.length := by simp; omega
    obtain ⟨g, hg1, hg2⟩ := G.rows.block 2 (n := c.latches.length) (a := (h2 2).1) (c := (h2 2).2) (by unfold tRows upd; rfl) (by unfold tRows upd; exact hll) (by omega)
    have k2 : (ccells c2 h2)[0 + 2]? = some (.slice (some ⟨g, 0, none⟩) c.latches.length (h2 2).2) := by rw [← hg1, ← hl2]; rfl
    have hstep := set_take_drop (renLatch to) c.latches i hlt
    have hdr1 : rg to.length (c.latches[i].1 / 2) := by rw [hML]; unfold defBad at hdb; unfold rg; omega
    have hdr2 : 1 < c.latches[i].2.2 → rg to.length (c.latches[i].2.2 / 2) := fun hh => by
      unfold badReset at hrb
      have : c.latches[i].2.2 = c.latches[i].1 := by
        refine Classical.byContradiction fun hc => hrb ⟨by omega, by omega, hc⟩
      rw [this]; exact hdr1
    generalize hx : c.latches[i] = x at *
    rw [hp]
    repeat' (first
      | (apply X_loadAP (tcells x); eq_refl; eq_refl; exact hpc)
      | (apply WC_seqK; intro K hK)
      | (apply hK; clear hK)
      | (apply WC_block)
      | (apply WC_region)
      | (apply WL_nil)
      | (apply thenQ_normal)
      | (apply WC_skip)
      | (apply WC_if_true; eq_refl)
      | (apply WL_on0; eq_refl)
      | (apply X_pv; eq_refl; first | exact trivial | omega)
      | (apply X_cmpT; eq_refl; eq_refl; omega)
      | (apply X_indexP; eq_refl; eq_refl; omega; omega)
      | (apply X_alloc))
    refine X_doesU (does_storeA (t1 := 70) (vs := tcells x) (o := 0) (b := w19.heap.size) (by eq_refl) (by eq_refl) (Blk.newA w19 _ _) rfl (by exact Nat.le_refl 3) (by simp [tcells, Value.oneCell'])) ?_
    have hcc : Chg w19 ((w19.alloc (.cells #[nu 0, nu 0, nu 0] 70)).setRow w19.heap.size (tcells x).toArray) none_ := (Chg.alloc w19 _ none_).trans (Chg.setRow _ w19.heap.size _ (S := fun k => k = w19.heap.size) rfl) fun k hk h => by omega
    have hgl := (G.rows.lt hg2).2
    refine WL_turn (fun W => RB w W c h (.slice Au ord.length cu) ord to tr lb ob (ccells c2 h2) (tRows F2 2 (slc h2 2 c.latches.length) 70 ((c.latches.take i).map (renLatch to) ++ c.latches.drop i)) ∧ Blk W w19.heap.size 70 (tcells x)) ⟨G.same hcc, (Blk.newA w19 _ 70).set (tcells x)⟩ ?_
    have hobl := G.out.lt
    have hlbl := G.lit.lt
    have hrl : ∀ j k, ((tRows F2 2 (slc h2 2 c.latches.length) 70 ((c.latches.take i).map (renLatch to) ++ c.latches.drop i)) j).v.ownBlock = some k → k < w19.heap.size := fun j k hk => (G.rows.lt hk).2
    generalize hsl : w19.heap.size = sl at *
    clear G
    rintro w20 ⟨G, hT⟩
    have hV := G.lit
    have hlr := fun hh => lit_cv G.map hMO (hdr2 hh)
    repeat' (first
      | (apply X_clo (f := 102); eq_refl; eq_refl; apply hlr; assumption; rintro _ w2 ⟨rfl, hw2⟩; obtain rfl := hw2.symm)
      | (apply WC_seqK; intro K hK)
      | (apply hK; clear hK)
      | (apply WC_region)
      | (apply WL_nil)
      | (apply thenQ_normal)
      | (apply WC_skip)
      | (apply WC_if_true; eq_refl)
      | (apply WC_if_false; eq_refl)
      | (apply WL_on0; eq_refl)
      | (apply X_field; eq_refl)
      | (apply X_loadR; eq_refl; (first | assumption | (apply Blk.alloc; assumption) | apply Blk.new | apply Blk.newA | (apply Blk.alloc; first | apply Blk.newA | (apply Blk.alloc; first | assumption | apply Blk.newA))); eq_refl)
      | (apply X_cmp; eq_refl; eq_refl; all_goals intro _))
    · have hgt : 1 < x.2.2 := by assumption
      refine X_doesU (does_store1 (t1 := 70) (b := sl) (o := 0 + 2) (v := nu (litM to x.2.2)) (by eq_refl) (by eq_refl) hT (by exact Nat.le_refl 3) rfl rfl) ?_
      refine WL_turn (fun W => RB w W c h (.slice Au ord.length cu) ord to tr lb ob (ccells c2 h2) (tRows F2 2 (slc h2 2 c.latches.length) 70 ((c.latches.take i).map (renLatch to) ++ c.latches.drop i)) ∧ Blk W sl 70 (tcells (x.1, x.2.1, (renLatch to x).2.2))) ⟨G.other (Chg.setRow _ _ _ rfl) hobl hrl, ?_⟩ ?_
      · have := hT.set ((tcells x).set (0 + 2) (nu (litM to x.2.2)))
        rw [show (renLatch to x).2.2 = litM to x.2.2 from if_pos hgt]
        exact this
      clear hlr G hT hV
      rintro w20 ⟨G, hT⟩
      repeat' (first
      | (apply hK; clear hK)
      | (apply WL_nil)
      | (apply thenQ_normal))
      generalize hrr : (renLatch to x).2.2 = r at *
      have hren : renLatch to x = (litM to x.1, litM to x.2.1, r) := by rw [← hrr]; rfl
      have hl1 := lit_cv (G.same (Chg.drew w20 none_)).map hMO hdr1
      have hl2' := lit_cv (G.same (Chg.drew w20 none_)).map hMO hnx
      refine WC_draws [(0, true), (1, true), (2, true), (3, true), (4, true), (5, true), (7, true), (8, true), (9, true), (11, true), (12, true), (6, false), (10, false), (13, true), (14, true), (15, false)] (fun W => Blk W ob 51 (ccells c2 h2) ∧ Blk W lb 127 [.func (.func 102) #[] #[pt (tr + 1)]] ∧ Blk W sl 70 (tcells (x.1, x.2.1, r))) mixed (by kernel_rfl) (by kernel_rfl) ?_
      have hS : Blk w20.drew ob 51 (ccells c2 h2) ∧ Blk w20.drew lb 127 [.func (.func 102) #[] #[pt (tr + 1)]] ∧ Blk w20.drew sl 70 (tcells (x.1, x.2.1, r)) := ⟨G.out, G.lit, hT⟩
      have G2 := G.same (Chg.drew w20 none_)
      generalize w20.drew = w21 at *
      repeat' (first
      | (apply O_loadR; eq_refl; (intro _ h; exact h.1); exact k2; assumption)
      | (apply O_clo (f := 102); eq_refl; eq_refl; exact hl1; rintro _ w2 ⟨rfl, hw2⟩; obtain rfl := hw2.symm; refine ⟨fun _ => hS, ?_⟩)
      | (apply O_clo (f := 102); eq_refl; eq_refl; exact hl2'; rintro _ w2 ⟨rfl, hw2⟩; obtain rfl := hw2.symm; refine ⟨fun _ => hS, ?_⟩)
      | (apply WS_next; eq_refl)
      | (apply WO_on0; eq_refl)
      | (apply O_pv; eq_refl; (first | exact trivial | omega); (first | assumption | exact trivial))
      | (apply O_field; eq_refl; (first | assumption | exact trivial))
      | (apply O_loadR; eq_refl; (first | (intro _ h; exact h) | (intro _ h; exact h.1) | (intro _ h; exact h.2) | (intro _ h; exact h.2.1) | (intro _ h; exact h.2.2) | (intro _ h; exact h.2.2.1) | (intro _ h; exact h.2.2.2)); eq_refl; (first | assumption | exact trivial))
      | (apply O_index; eq_refl; eq_refl; omega; omega; (first | assumption | exact trivial))
      | (apply O_pure; apply build70_0_1_2 <;> eq_refl; (first | assumption | exact trivial)))
      have ho2 : w21.ownsRow (lb + 1) 70 3 (.slice (some ⟨g, 0, none⟩) c.latches.length (h2 2).2) c.latches.length (((c.latches.take i).map (renLatch to) ++ c.latches.drop i).flatMap tcells) := by
        have := G2.rows.own 2
        simp only [tRows, upd, if_pos, Rw.own, slc, hg1, hll] at this
        exact this
      obtain ⟨cur, hB, hcl, hst⟩ := own_tri (x := renLatch to x) ho2 hlt hll
      have G3 := G2.write 2 ⟨slc h2 2 c.latches.length, 70, 3, (((c.latches.take i).map (renLatch to) ++ c.latches.drop i).set i (renLatch to x)).length, (((c.latches.take i).map (renLatch to) ++ c.latches.drop i).set i (renLatch to x)).flatMap tcells⟩ (g := g) (cur := splice cur (i * 3) (tcells (renLatch to x))) hg2 (by simp [tRows, upd]) (by
        show World.ownsRow _ _ 70 3 (slc h2 2 c.latches.length) _ _
        simp only [slc, hg1, List.length_set, hll]
        exact hst)
      unfold tRows at G3
      rw [upd_upd, hstep] at G3
      refine O_doesU (does_storeA (t1 := 70) (vs := tcells (renLatch to x)) (o := 0 + (i : Int).toNat * 3) (b := g) (by eq_refl) (by rw [hren]; eq_refl) hB rfl (by show _ + 3 ≤ _; omega) (by simp [tcells, Value.oneCell'])) (fun _ => ?_) ?_
      · rw [show 0 + (i : Int).toNat * 3 = i * 3 by omega]
        exact ⟨G3.out, G3.lit, hS.2.2.chg (Chg.setRow _ g _ (S := fun k => k = g) rfl) (by omega)⟩
      rw [show 0 + (i : Int).toNat * 3 = i * 3 by omega]
      repeat' (first
      | (apply hK; clear hK)
      | (apply WC_region)
      | (apply WL_nil)
      | (apply thenQ_normal)
      | (apply blockQ_normal)
      | (apply WS_nil)
      | (apply WL_on0; eq_refl)
      | (apply X_pv; eq_refl; first | exact trivial | omega))
      skip
      exact ⟨i + 1, ⟨rfl, rfl, rfl, rfl, rfl, rfl, by first | rfl | (rw [hp]; rfl), rfl, rfl, trivial⟩, ⟨G3, hlt⟩, by omega⟩
    · have hngt : ¬ 1 < x.2.2 := by assumption
      have hT : Blk w20 sl 70 (tcells (x.1, x.2.1, (renLatch to x).2.2)) := by
        rw [show (renLatch to x).2.2 = x.2.2 from if_neg hngt]
        exact hT
      generalize hrr : (renLatch to x).2.2 = r at *
      have hren : renLatch to x = (litM to x.1, litM to x.2.1, r) := by rw [← hrr]; rfl
      have hl1 := lit_cv (G.same (Chg.drew w20 none_)).map hMO hdr1
      have hl2' := lit_cv (G.same (Chg.drew w20 none_)).map hMO hnx
      refine WC_draws [(0, true), (1, true), (2, true), (3, true), (4, true), (5, true), (7, true), (8, true), (9, true), (11, true), (12, true), (6, false), (10, false), (13, true), (14, true), (15, false)] (fun W => Blk W ob 51 (ccells c2 h2) ∧ Blk W lb 127 [.func (.func 102) #[] #[pt (tr + 1)]] ∧ Blk W sl 70 (tcells (x.1, x.2.1, r))) mixed (by kernel_rfl) (by kernel_rfl) ?_
      have hS : Blk w20.drew ob 51 (ccells c2 h2) ∧ Blk w20.drew lb 127 [.func (.func 102) #[] #[pt (tr + 1)]] ∧ Blk w20.drew sl 70 (tcells (x.1, x.2.1, r)) := ⟨G.out, G.lit, hT⟩
      have G2 := G.same (Chg.drew w20 none_)
      generalize w20.drew = w21 at *
      repeat' (first
      | (apply O_loadR; eq_refl; (intro _ h; exact h.1); exact k2; assumption)
      | (apply O_clo (f := 102); eq_refl; eq_refl; exact hl1; rintro _ w2 ⟨rfl, hw2⟩; obtain rfl := hw2.symm; refine ⟨fun _ => hS, ?_⟩)
      | (apply O_clo (f := 102); eq_refl; eq_refl; exact hl2'; rintro _ w2 ⟨rfl, hw2⟩; obtain rfl := hw2.symm; refine ⟨fun _ => hS, ?_⟩)
      | (apply WS_next; eq_refl)
      | (apply WO_on0; eq_refl)
      | (apply O_pv; eq_refl; (first | exact trivial | omega); (first | assumption | exact trivial))
      | (apply O_field; eq_refl; (first | assumption | exact trivial))
      | (apply O_loadR; eq_refl; (first | (intro _ h; exact h) | (intro _ h; exact h.1) | (intro _ h; exact h.2) | (intro _ h; exact h.2.1) | (intro _ h; exact h.2.2) | (intro _ h; exact h.2.2.1) | (intro _ h; exact h.2.2.2)); eq_refl; (first | assumption | exact trivial))
      | (apply O_index; eq_refl; eq_refl; omega; omega; (first | assumption | exact trivial))
      | (apply O_pure; apply build70_0_1_2 <;> eq_refl; (first | assumption | exact trivial)))
      have ho2 : w21.ownsRow (lb + 1) 70 3 (.slice (some ⟨g, 0, none⟩) c.latches.length (h2 2).2) c.latches.length (((c.latches.take i).map (renLatch to) ++ c.latches.drop i).flatMap tcells) := by
        have := G2.rows.own 2
        simp only [tRows, upd, if_pos, Rw.own, slc, hg1, hll] at this
        exact this
      obtain ⟨cur, hB, hcl, hst⟩ := own_tri (x := renLatch to x) ho2 hlt hll
      have G3 := G2.write 2 ⟨slc h2 2 c.latches.length, 70, 3, (((c.latches.take i).map (renLatch to) ++ c.latches.drop i).set i (renLatch to x)).length, (((c.latches.take i).map (renLatch to) ++ c.latches.drop i).set i (renLatch to x)).flatMap tcells⟩ (g := g) (cur := splice cur (i * 3) (tcells (renLatch to x))) hg2 (by simp [tRows, upd]) (by
        show World.ownsRow _ _ 70 3 (slc h2 2 c.latches.length) _ _
        simp only [slc, hg1, List.length_set, hll]
        exact hst)
      unfold tRows at G3
      rw [upd_upd, hstep] at G3
      refine O_doesU (does_storeA (t1 := 70) (vs := tcells (renLatch to x)) (o := 0 + (i : Int).toNat * 3) (b := g) (by eq_refl) (by rw [hren]; eq_refl) hB rfl (by show _ + 3 ≤ _; omega) (by simp [tcells, Value.oneCell'])) (fun _ => ?_) ?_
      · rw [show 0 + (i : Int).toNat * 3 = i * 3 by omega]
        exact ⟨G3.out, G3.lit, hS.2.2.chg (Chg.setRow _ g _ (S := fun k => k = g) rfl) (by omega)⟩
      rw [show 0 + (i : Int).toNat * 3 = i * 3 by omega]
      repeat' (first
      | (apply hK; clear hK)
      | (apply WC_region)
      | (apply WL_nil)
      | (apply thenQ_normal)
      | (apply blockQ_normal)
      | (apply WS_nil)
      | (apply WL_on0; eq_refl)
      | (apply X_pv; eq_refl; first | exact trivial | omega))
      skip
      exact ⟨i + 1, ⟨rfl, rfl, rfl, rfl, rfl, rfl, by first | rfl | (rw [hp]; rfl), rfl, rfl, trivial⟩, ⟨G3, hlt⟩, by omega⟩
  obtain rfl : i = c.latches.length := by omega
  repeat' (first
      | (apply WC_seqK; intro K hK)
      | (apply hK; clear hK)
      | (clear hK; apply hK; clear hK)
      | (apply WC_block)
      | (apply WC_region)
      | (apply WL_nil)
      | (apply thenQ_normal)
      | (apply thenQ_exit)
      | (apply blockQ_hit)
      | (apply WC_exit)
      | (apply WC_if_false; eq_refl)
      | (apply WL_on0; eq_refl)
      | (apply X_pv; eq_refl; first | exact trivial | omega)
      | (apply X_cmpF; eq_refl; eq_refl; omega)
      | (apply X_len; eq_refl))
  rw [List.take_length, List.drop_of_length_le (Nat.le_refl _), List.append_nil] at G
  generalize hF3 : tRows F2 2 (slc h2 2 c.latches.length) 70 (c.latches.map (renLatch to)) = F3 at *
  have hF38 : F3 8 = ⟨slc h2 8 c.ands.length, 43, 3, c.ands.length, c.ands.flatMap tcells⟩ := by rw [← hF3, ← hF2, ← ha2]; rfl
  refine WC_loop (fun i : Nat => [(1, pt w.heap.size), (2, pt (w.heap.size + 1)), (7, pt (tr + 1)), (16, pt lb), (18, pt ob), (159, .slice Au ord.length cu), (160, nu ord.length), (161, nu i)])
    (fun i W => RB w W c h (.slice Au ord.length cu) ord to tr lb ob (ccells c2 h2) (tRows F3 8 (slc h2 8 c.ands.length) 43 ((ord.take i).map (fun i => renAnd to (andAt c i)) ++ c.ands.drop i)) ∧ i ≤ ord.length) (fun i => ord.length - i) 0 ⟨rfl, rfl, rfl, rfl, rfl, rfl, rfl, rfl, trivial⟩ ⟨by
      unfold tRows
      rw [upd_self]
      · exact G
      · rw [hF38]; simp, Nat.zero_le _⟩ ?_
  clear G
  rintro i w19 ⟨G, hi⟩
  rcases Nat.lt_or_ge i ord.length with hlt | hge
  · obtain ⟨p, rfl, hpc⟩ := (rowI G.row).one hlt (v := nu ord[i]) rfl
    obtain ⟨hx1, hx2, hx3⟩ := hord _ (List.getElem_mem hlt)
    obtain ⟨p8, hp8, hac⟩ := (H.chg G.chg).ands ord[i].toNat hx1
    rw [show ((ord[i].toNat : Nat) : Int).toNat = ord[i].toNat by omega] at hac
    have hll : ((ord.take i).map (fun i => renAnd to (andAt c i)) ++ c.ands.drop i).length = c.ands.length := by simp; omega
    obtain ⟨g, hg1, hg2⟩ := G.rows.block 8 (n := c.ands.length) (a := (h2 8).1) (c := (h2 8).2) (by unfold tRows upd; rfl) (by unfold tRows upd; exact hll) (by omega)
    have k8o : (ccells c2 h2)[0 + 8]? = some (.slice (some ⟨g, 0, none⟩) c.ands.length (h2 8).2) := by rw [← hg1, ← ha2]; rfl
    have k8 : (ccells c h)[0 + 8]? = some (.slice (some p8) c.ands.length (h 8).2) := by rw [← hp8]; rfl
    have hstep := set_take_drop2 (fun i => renAnd to (andAt c i)) ord c.ands i hlt (by omega)
    have hdb := (hTO.gat ord[i].toNat hx1).1
    have hus := hUA.ands _ (List.getElem_mem hx1)
    have hd1 := hur _ hus.1
    have hd2 := hur _ hus.2
    rw [hx3] at hstep
    generalize hxa : c.ands[ord[i].toNat] = a at *
    have hd0 : rg to.length (a.1 / 2) := by rw [hML]; unfold defBad at hdb; unfold rg; omega
    have ha0 := hac 0 (nu a.1) rfl
    have ha1 := hac 1 (nu a.2.1) rfl
    have ha2' := hac 2 (nu a.2.2) rfl
    generalize hxx : ord[i] = x at *
    have hG1 := G.cir
    repeat' (first
      | (apply WC_seqK; intro K hK)
      | (apply hK; clear hK)
      | (apply WC_block)
      | (apply WC_region)
      | (apply WL_nil)
      | (apply thenQ_normal)
      | (apply WC_skip)
      | (apply WC_if_true; eq_refl)
      | (apply WL_on0; eq_refl)
      | (apply X_pv; eq_refl; first | exact trivial | omega)
      | (apply X_loadC; eq_refl; (first | assumption | (apply cel; first | assumption | (apply cel; assumption))))
      | (apply X_cmpT; eq_refl; eq_refl; omega)
      | (apply X_indexP; eq_refl; eq_refl; omega; omega))
    refine WC_draws [(0, true), (1, true), (2, true), (3, true), (4, true), (5, true), (6, true), (8, true), (9, true), (10, true), (11, true), (12, true), (13, true), (14, true), (7, false), (15, false), (16, true), (17, true)] (fun W => Blk W lb 127 [.func (.func 102) #[] #[pt (tr + 1)]] ∧ Blk W w.heap.size 51 (ccells c h) ∧ W.cell? ((p8.add (x.toNat * 3)).add 1) = some (nu a.2.1) ∧ W.cell? ((p8.add (x.toNat * 3)).add 2) = some (nu a.2.2)) mixed (by kernel_rfl) (by kernel_rfl) ?_
    have hS : Blk w19.drew lb 127 [.func (.func 102) #[] #[pt (tr + 1)]] ∧ Blk w19.drew w.heap.size 51 (ccells c h) ∧ w19.drew.cell? ((p8.add (x.toNat * 3)).add 1) = some (nu a.2.1) ∧ w19.drew.cell? ((p8.add (x.toNat * 3)).add 2) = some (nu a.2.2) := ⟨G.lit, G.cir, ha1, ha2'⟩
    have G2 := G.same (Chg.drew w19 none_)
    have ha0' : w19.drew.cell? ((p8.add (x.toNat * 3)).add 0) = some (nu a.1) := ha0
    clear G ha1 ha2' ha0 hac hpc hG1
    generalize w19.drew = w20 at *
    have hl1 := lit_cv G2.map hMO hd1
    have hl2' := lit_cv G2.map hMO hd2
    repeat' (first
      | (apply O_loadR; eq_refl; (intro _ h; exact h.2.1); exact k8; assumption)
      | (apply O_clo (f := 102); eq_refl; eq_refl; exact hl1; rintro _ w2 ⟨rfl, hw2⟩; obtain rfl := hw2.symm; refine ⟨fun _ => hS, ?_⟩)
      | (apply O_clo (f := 102); eq_refl; eq_refl; exact hl2'; rintro _ w2 ⟨rfl, hw2⟩; obtain rfl := hw2.symm; refine ⟨fun _ => hS, ?_⟩)
      | (apply hK; clear hK)
      | (apply thenQ_normal)
      | (apply WS_nil)
      | (apply WS_next; eq_refl)
      | (apply WO_on0; eq_refl)
      | (apply O_pv; eq_refl; (first | exact trivial | omega); (first | assumption | exact trivial))
      | (apply O_field; eq_refl; (first | assumption | exact trivial))
      | (apply O_loadR; eq_refl; (first | (intro _ h; exact h) | (intro _ h; exact h.1) | (intro _ h; exact h.2) | (intro _ h; exact h.2.1) | (intro _ h; exact h.2.2) | (intro _ h; exact h.2.2.1) | (intro _ h; exact h.2.2.2)); eq_refl; (first | assumption | exact trivial))
      | (apply O_loadC; eq_refl; (first | (intro _ h; exact h) | (intro _ h; exact h.1) | (intro _ h; exact h.2) | (intro _ h; exact h.2.1) | (intro _ h; exact h.2.2) | (intro _ h; exact h.2.2.1) | (intro _ h; exact h.2.2.2)); (first | assumption | exact trivial))
      | (apply O_indexP; eq_refl; eq_refl; omega; omega; (first | assumption | exact trivial))
      | (apply O_fieldP; eq_refl; (first | assumption | exact trivial)))
    clear hS hl1 hl2'
    refine WC_draws [(0, true), (1, true), (2, true), (3, true), (4, true), (5, true), (6, true), (7, true), (8, true), (9, true), (11, true), (12, true), (13, true), (14, true), (15, true), (16, true), (10, false), (17, true), (18, true), (19, false)] (fun W => Blk W ob 51 (ccells c2 h2) ∧ Blk W lb 127 [.func (.func 102) #[] #[pt (tr + 1)]] ∧ Blk W w.heap.size 51 (ccells c h) ∧ W.cell? ((p8.add (x.toNat * 3)).add 0) = some (nu a.1)) mixed (by kernel_rfl) (by kernel_rfl) ?_
    have hS : Blk w20.drew ob 51 (ccells c2 h2) ∧ Blk w20.drew lb 127 [.func (.func 102) #[] #[pt (tr + 1)]] ∧ Blk w20.drew w.heap.size 51 (ccells c h) ∧ w20.drew.cell? ((p8.add (x.toNat * 3)).add 0) = some (nu a.1) := ⟨G2.out, G2.lit, G2.cir, ha0'⟩
    have G3 := G2.same (Chg.drew w20 none_)
    clear G2 ha0'
    generalize w20.drew = w21 at *
    have hl0 := lit_cv G3.map hMO hd0
    repeat' (first
      | (apply O_loadR; eq_refl; (intro _ h; exact h.1); exact k8o; assumption)
      | (apply O_loadR; eq_refl; (intro _ h; exact h.2.2.1); exact k8; assumption)
      | (apply O_pure; apply p_max; eq_refl; eq_refl; assumption)
      | (apply O_pure; apply p_min; eq_refl; eq_refl; assumption)
      | (apply O_clo (f := 102); eq_refl; eq_refl; exact hl0; rintro _ w2 ⟨rfl, hw2⟩; obtain rfl := hw2.symm; refine ⟨fun _ => hS, ?_⟩)
      | (apply WS_next; eq_refl)
      | (apply WO_on0; eq_refl)
      | (apply O_pv; eq_refl; (first | exact trivial | omega); (first | assumption | exact trivial))
      | (apply O_field; eq_refl; (first | assumption | exact trivial))
      | (apply O_loadR; eq_refl; (first | (intro _ h; exact h) | (intro _ h; exact h.1) | (intro _ h; exact h.2) | (intro _ h; exact h.2.1) | (intro _ h; exact h.2.2) | (intro _ h; exact h.2.2.1) | (intro _ h; exact h.2.2.2)); eq_refl; (first | assumption | exact trivial))
      | (apply O_loadC; eq_refl; (first | (intro _ h; exact h) | (intro _ h; exact h.1) | (intro _ h; exact h.2) | (intro _ h; exact h.2.1) | (intro _ h; exact h.2.2) | (intro _ h; exact h.2.2.1) | (intro _ h; exact h.2.2.2)); (first | assumption | exact trivial))
      | (apply O_index; eq_refl; eq_refl; omega; omega; (first | assumption | exact trivial))
      | (apply O_indexP; eq_refl; eq_refl; omega; omega; (first | assumption | exact trivial))
      | (apply O_fieldP; eq_refl; (first | assumption | exact trivial))
      | (apply O_pure; apply build43_0_1_2 <;> eq_refl; (first | assumption | exact trivial)))
    have ho2 : w21.ownsRow (lb + 1) 43 3 (.slice (some ⟨g, 0, none⟩) c.ands.length (h2 8).2) c.ands.length (((ord.take i).map (fun i => renAnd to (andAt c i)) ++ c.ands.drop i).flatMap tcells) := by
      have := G3.rows.own 8
      simp only [tRows, upd, if_pos, Rw.own, slc, hg1, hll] at this
      exact this
    obtain ⟨cur, hB, hcl, hst⟩ := own_tri (i := i) (x := renAnd to a) ho2 (by omega) hll
    have G4 := G3.write 8 ⟨slc h2 8 c.ands.length, 43, 3, (((ord.take i).map (fun i => renAnd to (andAt c i)) ++ c.ands.drop i).set i (renAnd to a)).length, (((ord.take i).map (fun i => renAnd to (andAt c i)) ++ c.ands.drop i).set i (renAnd to a)).flatMap tcells⟩ (g := g) (cur := splice cur (i * 3) (tcells (renAnd to a))) hg2 (by simp [tRows, upd]) (by
      show World.ownsRow _ _ 43 3 (slc h2 8 c.ands.length) _ _
      simp only [slc, hg1, List.length_set, hll]
      exact hst)
    unfold tRows at G4
    rw [upd_upd, hstep] at G4
    have hgne : g ≠ w.heap.size := by have := (G3.rows.lt hg2).1; have := G3.lay; omega
    have hp8b : w21.cell? ((p8.add (x.toNat * 3)).add 0) = some (nu a.1) := hS.2.2.2
    refine O_doesU (does_storeA (t1 := 43) (vs := tcells (renAnd to a)) (o := 0 + (i : Int).toNat * 3) (b := g) (by eq_refl) (by eq_refl) hB rfl (by show _ + 3 ≤ _; omega) (by simp [tcells, Value.oneCell'])) (lo (by kernel_rfl)) ?_
    rw [show 0 + (i : Int).toNat * 3 = i * 3 by omega]
    repeat' (first
      | (apply hK; clear hK)
      | (apply WC_region)
      | (apply WL_nil)
      | (apply thenQ_normal)
      | (apply blockQ_normal)
      | (apply WS_nil)
      | (apply WL_on0; eq_refl)
      | (apply X_pv; eq_refl; first | exact trivial | omega))
    skip
    exact ⟨i + 1, ⟨rfl, rfl, rfl, rfl, rfl, rfl, rfl, rfl, trivial⟩, ⟨G4, hlt⟩, by omega⟩
  obtain rfl : i = ord.length := by omega
  rw [List.take_length, List.drop_of_length_le (by omega), List.append_nil] at G
  repeat' (first
      | (apply WC_seqK; intro K hK)
      | (apply hK; clear hK)
      | (clear hK; apply hK; clear hK)
      | (apply WC_region)
      | (apply WL_nil)
      | (apply thenQ_normal)
      | (apply thenQ_exit)
      | (apply blockQ_hit)
      | (apply WC_exit)
      | (apply WC_if_false; eq_refl)
      | (apply WL_on0; eq_refl)
      | (apply X_cmpF; eq_refl; eq_refl; omega))
  refine WC_draws [(0, true), (1, true), (2, false), (3, true), (4, true)] (fun W => Blk W ob 51 (ccells c2 h2) ∧ Blk W (tr + 1) 45 [.slice (some ⟨tr, 0, none⟩) to.length to.length]) mixed (by kernel_rfl) (by kernel_rfl) ?_
  have hS : Blk w19.drew ob 51 (ccells c2 h2) ∧ Blk w19.drew (tr + 1) 45 [.slice (some ⟨tr, 0, none⟩) to.length to.length] := ⟨G.out, G.map.var⟩
  have G2 := G.same (Chg.drew w19 none_)
  clear G
  generalize w19.drew = w20 at *
  repeat' (first
      | (apply WS_next; eq_refl)
      | (apply WO_on0; eq_refl)
      | (apply O_loadR; eq_refl; (first | (intro _ h; exact h) | (intro _ h; exact h.1) | (intro _ h; exact h.2) | (intro _ h; exact h.2.1) | (intro _ h; exact h.2.2) | (intro _ h; exact h.2.2.1) | (intro _ h; exact h.2.2.2)); eq_refl; (first | assumption | exact trivial))
      | (apply O_loadW; eq_refl; (first | (intro _ h; exact h) | (intro _ h; exact h.1) | (intro _ h; exact h.2) | (intro _ h; exact h.2.1) | (intro _ h; exact h.2.2) | (intro _ h; exact h.2.2.1) | (intro _ h; exact h.2.2.2)); eq_refl; (first | assumption | exact trivial)))
  have hcc : Chg w20 (w20.setRow (w.heap.size + 1) (ccells c2 h2).toArray) (fun k => k = w.heap.size + 1) := Chg.setRow _ _ _ rfl
  have hlay := G2.lay
  have hS2 : Blk (w20.setRow (w.heap.size + 1) (ccells c2 h2).toArray) ob 51 (ccells c2 h2) ∧ Blk (w20.setRow (w.heap.size + 1) (ccells c2 h2).toArray) (tr + 1) 45 [.slice (some ⟨tr, 0, none⟩) to.length to.length] := ⟨hS.1.chg hcc (by omega), hS.2.chg hcc (by omega)⟩
  refine O_doesU (does_storeA (t1 := 51) (vs := ccells c2 h2) (o := 0) (b := w.heap.size + 1) (by eq_refl) (by eq_refl) G2.res rfl (by exact Nat.le_refl 11) (by simp [ccells, Value.oneCell'])) (fun _ => hS2) ?_
  have hR9 := G2.res.set (ccells c2 h2)
  have hW9 := G2.rows.chg hcc fun i k hk hh => by have := (G2.rows.lt hk).1; omega
  have hC9 := G2.chg.trans hcc fun k hk hh => by omega
  have hM9 := G2.map.row.chg hcc (by omega)
  have hcells : ccells c2 h2 = ccells (renM c ord) h2 := by rw [← hc2]; simp [ccells, renM, ren2, ren1, hol]
  repeat' (first
      | (apply hK; clear hK)
      | (apply thenQ_normal)
      | (apply WC_ret)
      | (apply WS_nil)
      | (apply WS_next; eq_refl)
      | (apply WO_on0; eq_refl)
      | (apply O_pv; eq_refl; (first | exact trivial | omega); (first | assumption | exact trivial)))
  skip
  refine retC2 (.inl rfl) (by eq_refl) (by eq_refl) (by eq_refl) (cs := ccells c2 h2) (fun j u hj => ?_) rfl ⟨hC9, .inr ⟨he, ord, h2, jn, .slice (some ⟨tr, 0, none⟩) to.length to.length, hall, hol, by rw [hcells], ?_, ?_⟩⟩
  · rw [add_at, Nat.zero_add]
    exact (hR9.cell j).trans hj
  · refine (cast (congrArg (Rows _ (lb + 1)) ?_) hW9 : Rows _ (lb + 1) _).mono (by omega)
    rw [← hF3, ← hF2, ← hc2]
    funext k
    unfold tRows
    rcases Nat.lt_or_ge k 11 with hlt | hge
    · match k with
      | 0 | 1 | 3 | 4 | 5 | 6 | 7 | 9 | 10 => first | rfl | (simp [upd, cirRows, renM, ren2, ren1, hto]; done)
      | 2 => simp [upd, cirRows, renM, hto, slc]
      | 8 => simp [upd, cirRows, renM, hto, slc, hol]
    · obtain ⟨m, rfl⟩ : ∃ m, k = m + 11 := ⟨k - 11, by omega⟩
      first | rfl | (simp [upd, cirRows, renM, ren2, ren1, hto]; done)
  · rw [hto]
    exact own_of_blk hM9 (by omega) (by simp) (Nat.le_refl _) (by rw [hML]; simp only [maxLen]; omega) (List.take_of_length_le (by simp))
end SC
end Go.Proofs.Ytkndegjodnciaaa
end
section
/- shape: works. -/
set_option linter.unusedVariables false
set_option linter.unusedSimpArgs false
namespace Go.Proofs.Ytkndegjodnciaaa
namespace SC
open Go.Proofs
attribute [local irreducible] WC WL WX WS WO OX Does DoesU Enters CV Pure thenQ blockQ retQ Wants retQC
set_option maxRecDepth 100000
def cOne : Circ := ⟨3, [2, 4], [], [], [], [], [], [], [(6, 2, 4)], [], []⟩
def cTwo : Circ := ⟨3, [3], [], [], [], [], [], [], [], [], []⟩
theorem RowA.emp {α : Type} {w : World} {enc : α → List Value} {sz : Nat} {A : Option Addr} : RowA w enc sz A ([] : List α) := fun k hk => absurd hk (Nat.not_lt_zero _)
theorem RowA.blk {α : Type} {w : World} {enc : α → List Value} {sz b : Nat} {t : TypeId} {l : List α} (hsz : ∀ a, (enc a).length = sz) (h : Blk w b t (l.flatMap enc)) : RowA w enc sz (some ⟨b, 0, none⟩) l := fun k hk => by
  refine ⟨_, rfl, fun j u hj => ?_⟩
  have hjl : j < sz := by have := (List.getElem?_eq_some_iff.1 hj).1; rwa [hsz] at this
  rw [add_at, add_at, Nat.zero_add, h.cell, Int.toNat_natCast, flatMap_get enc sz hsz l k hk j hjl]
  exact hj
def hOne (a b : Nat) : Hd := fun | 1 => (some ⟨a, 0, none⟩, 2) | 8 => (some ⟨b, 0, none⟩, 1) | _ => (none, 0)
def hTwo (a : Nat) : Hd := fun | 1 => (some ⟨a, 0, none⟩, 1) | _ => (none, 0)
def hNil : Hd := fun _ => (none, 0)
end SC
end Go.Proofs.Ytkndegjodnciaaa
end
section
/- shape's laws: gates of each variable; ShapeOrders' walk. -/
set_option linter.unusedVariables false
set_option linter.unusedSimpArgs false
namespace Go.Proofs.Ytkndegjodnciaaa
namespace SC
open Go.Proofs
def gatesL : List Tri → Nat → List Int → List Int
  | [], _, l => l
  | x :: r, i, l => gatesL r (i + 1) (l.set (x.1 / 2).toNat i)
theorem gatesL_not : ∀ (ls : List Tri) (k : Nat) (l : List Int) (v : Int), 0 ≤ v → (∀ x ∈ ls, rg l.length (x.1 / 2) ∧ x.1 / 2 ≠ v) → L (gatesL ls k l) v = L l v
  | [], _, _, _, _, _ => rfl
  | x :: r, k, l, v, hv, h => by
    obtain ⟨h1, h2⟩ := h x (by simp)
    unfold gatesL
    rw [gatesL_not r (k + 1) _ v hv fun y hy => by rw [List.length_set]; exact h y (by simp [hy]), L_set _ h1 hv, if_neg (fun e => h2 e.symm)]
theorem gatesL_at : ∀ (ls : List Tri) (k : Nat) (l : List Int) (j : Nat) (hj : j < ls.length), (∀ x ∈ ls, rg l.length (x.1 / 2)) → (∀ i (hi : i < ls.length), ls[i].1 / 2 = ls[j].1 / 2 → i = j) → L (gatesL ls k l) (ls[j].1 / 2) = k + j
  | [], _, _, j, hj, _, _ => absurd hj (Nat.not_lt_zero _)
  | x :: r, k, l, 0, hj, h, hu => by
    have h1 := h x (by simp)
    unfold gatesL
    simp only [List.getElem_cons_zero]
    rw [gatesL_not r (k + 1) _ _ h1.1 fun y hy => ⟨by rw [List.length_set]; exact h y (by simp [hy]), fun e => ?_⟩, L_set _ h1 h1.1, if_pos rfl]
    · simp
    · obtain ⟨i, hi, rfl⟩ := List.mem_iff_getElem.1 hy
      have := hu (i + 1) (by simp; omega) (by simpa using e)
      omega
  | x :: r, k, l, j + 1, hj, h, hu => by
    unfold gatesL
    simp only [List.getElem_cons_succ]
    rw [gatesL_at r (k + 1) _ j (by simpa using hj) (fun y hy => by rw [List.length_set]; exact h y (by simp [hy])) fun i hi e => by
      have := hu (i + 1) (by simp; omega) (by simpa using e)
      omega]
    simp; omega
/-- Of each variable the gate that defines it, or -1. -/
def gatesM (c : Circ) : List Int := gatesL c.ands 0 (List.replicate (c.max + 1).toNat (-1))
theorem TabOk.gatesM {c : Circ} {t : Tab} (h : TabOk c t) {v : Int} (hv : rg (c.max + 1).toNat v) : L (SC.gatesM c) v = if kindAt t v = 3 then atOf t v else -1 := by
  have hrg : ∀ x ∈ c.ands, rg (List.replicate (c.max + 1).toNat (-1 : Int)).length (x.1 / 2) := fun x hx => by
    obtain ⟨j, hj, rfl⟩ := List.mem_iff_getElem.1 hx
    have := (h.gat j hj).1
    rw [List.length_replicate]
    unfold defBad at this; unfold rg; omega
  have e : v = ((v.toNat : Nat) : Int) := by unfold rg at hv; omega
  by_cases hk : kindAt t v = 3
  · rw [if_pos hk]
    rw [e] at hk
    obtain ⟨j, hj, h1, h2, h3⟩ := h.gate hk
    rw [← e] at h1 h2
    have e2 : c.ands[j].1 / 2 = v := by omega
    have := gatesL_at c.ands 0 (List.replicate (c.max + 1).toNat (-1)) j hj hrg fun i hi e3 => by
      have g1 := (h.gat i hi).2
      have g2 := (h.gat j hj).2
      rw [e3, g2] at g1
      simp at g1
      omega
    rw [e2] at this
    unfold SC.gatesM
    rw [this, h2]
    simp
  · rw [if_neg hk]
    unfold SC.gatesM
    rw [gatesL_not c.ands 0 _ v hv.1 fun x hx => ⟨hrg x hx, fun e2 => hk ?_⟩]
    · unfold L
      unfold rg at hv
      simp only [List.getD_eq_getElem?_getD, List.getElem?_replicate]
      rw [if_pos (by omega)]
      rfl
    · obtain ⟨j, hj, rfl⟩ := List.mem_iff_getElem.1 hx
      have := (h.gat j hj).2
      rw [e2] at this
      rw [kindAt_get this]
theorem mem_gateB {c : Circ} {t : Tab} {i : Int} {z : Int} (hi : rg c.ands.length i) : z ∈ gateB t c i ↔ ∃ l, (l = (andAt c i).2.1 ∨ l = (andAt c i).2.2) ∧ kindAt t (l / 2) = 3 ∧ atOf t (l / 2) = z := by
  unfold gateB belowM
  rw [mem_belowL]
  unfold andAt
  simp
attribute [local irreducible] WC WL WX WS WO OX Does DoesU Enters CV Pure thenQ blockQ retQ Wants retQC
set_option maxRecDepth 100000
end SC
end Go.Proofs.Ytkndegjodnciaaa
end
section
/- trestleref03: Defined. -/
set_option linter.unusedVariables false
set_option linter.unusedSimpArgs false
namespace Go.Proofs.Ytkndegjodnciaaa
namespace SC
open Go.Proofs
attribute [local irreducible] WC WL WX WS WO OX Does DoesU Enters CV Pure thenQ blockQ retQ Wants retQC
set_option maxRecDepth 100000
end SC
end Go.Proofs.Ytkndegjodnciaaa
end
section
/- trestleref03: uses. -/
set_option linter.unusedVariables false
set_option linter.unusedSimpArgs false
namespace Go.Proofs.Ytkndegjodnciaaa
namespace SC
open Go.Proofs
section
variable {P : Program} {ty t t0 : TypeId} {e : Env} {w : World} {x y : Operand} {d0 : TypeDesc} {sz by_ sz1 by1 : Nat} {z z1 : Value} {ag ag1 : Bool} {m b o : Nat} {i : Int} {k : IntKind}
end
attribute [local irreducible] WC WL WX WS WO OX Does DoesU Enters CV Pure thenQ blockQ retQ Wants retQC
set_option maxRecDepth 100000
end SC
end Go.Proofs.Ytkndegjodnciaaa
end
section
/- trestleref03: gates. -/
set_option linter.unusedVariables false
set_option linter.unusedSimpArgs false
namespace Go.Proofs.Ytkndegjodnciaaa
namespace SC
open Go.Proofs
/-- What a gate asks for: a literal's gate, or none. -/
theorem TabOk.lit {c : Circ} {t : Tab} (hT : TabOk c t) (hU : UseAll c t) {i : Int} (hi : rg c.ands.length i) {l : Int} (hl : l = (andAt c i).2.1 ∨ l = (andAt c i).2.2) :
    0 ≤ l ∧ l ≤ 2 * c.max + 1 ∧ ((kindAt t (l / 2) = 3 ∧ L (SC.gatesM c) (l / 2) = atOf t (l / 2) ∧ rg c.ands.length (atOf t (l / 2)) ∧ atOf t (l / 2) ∈ gateB t c i) ∨ (kindAt t (l / 2) ≠ 3 ∧ L (SC.gatesM c) (l / 2) = -1)) := by
  have hlt : i.toNat < c.ands.length := by unfold rg at hi; omega
  have e : andAt c i = c.ands[i.toNat] := by unfold andAt; simp [hlt]
  have hu := hU.ands _ (List.getElem_mem hlt)
  rw [← e] at hu
  have h0 : 0 ≤ l ∧ l ≤ 2 * c.max + 1 := by
    rcases hl with rfl | rfl
    · exact ⟨hu.1.1, hu.1.2.1⟩
    · exact ⟨hu.2.1, hu.2.2.1⟩
  refine ⟨h0.1, h0.2, ?_⟩
  have hr : rg (c.max + 1).toNat (l / 2) := by unfold rg; omega
  have hg := hT.gatesM hr
  by_cases hk : kindAt t (l / 2) = 3
  · rw [if_pos hk] at hg
    have hm : atOf t (l / 2) ∈ gateB t c i := (mem_gateB hi).2 ⟨l, hl, hk, rfl⟩
    exact .inl ⟨hk, hg, hT.below hU i hi _ hm, hm⟩
  · rw [if_neg hk] at hg
    exact .inr ⟨hk, hg⟩
attribute [local irreducible] WC WL WX WS WO OX Does DoesU Enters CV Pure thenQ blockQ retQ Wants retQC
set_option maxRecDepth 100000
end SC
end Go.Proofs.Ytkndegjodnciaaa
end
section
/- trestleref03: told. -/
set_option linter.unusedVariables false
set_option linter.unusedSimpArgs false
namespace Go.Proofs.Ytkndegjodnciaaa
namespace SC
open Go.Proofs
/-- What told keeps in memory: the gates of the variables, which are told, and their row. -/
structure TolSt (w W : World) (c : Circ) (h : Hd) (t : Tab) (g D : Nat) (out : List Int) (dn : List Bool) (vo : Value) : Prop where
  chg : Chg w W none_
  box : Blk W w.heap.size 51 (ccells c h)
  gate : Blk W g 3 ((gatesM c).map nu)
  done : Blk W D 4 (dn.map Value.bool)
  row : W.ownsRow (D + 1) 3 1 vo out.length (out.map nu)
  len : dn.length = c.ands.length
  told : Told c.ands.length (gateB t c) out
  mem : ∀ y, rg c.ands.length y → (Sn dn y = true ↔ y ∈ out)
theorem TolSt.same {w W W' : World} {c : Circ} {h : Hd} {t : Tab} {g D : Nat} {out : List Int} {dn : List Bool} {vo : Value} (S : TolSt w W c h t g D out dn vo) (hc : Chg W W' none_) : TolSt w W' c h t g D out dn vo :=
  ⟨S.chg.trans hc fun _ _ h => h, S.box.chg hc id, S.gate.chg hc id, S.done.chg hc id, own_chg S.row hc fun _ _ => id, S.len, S.told, S.mem⟩
section
variable {P : Program} {n : Nat} {all rest : List Oper} {K : Env → World → Prop} {e : Env} {w : World}
end
attribute [local irreducible] WC WL WX WS WO OX Does DoesU Enters CV Pure thenQ blockQ retQ Wants retQC
set_option maxRecDepth 100000
end SC
end Go.Proofs.Ytkndegjodnciaaa
end
section
/- trestleref03: round. -/
set_option linter.unusedVariables false
set_option linter.unusedSimpArgs false
namespace Go.Proofs.Ytkndegjodnciaaa
namespace SC
open Go.Proofs
/-- The search from a gate, first come first served: i of the list are done. -/
structure Bfs (n : Nat) (B : Int → List Int) (at_ : Int) (l : List Int) (sn : List Bool) (i : Nat) : Prop where
  len : sn.length = n
  head : l[0]? = some at_
  all : ∀ z ∈ l, rg n z ∧ (z = at_ ∨ Hangs B at_ z)
  seen : ∀ z, rg n z → Sn sn z = true → z ∈ l
  done : ∀ j (hj : j < l.length), j < i → ∀ u ∈ B l[j], u ≠ at_ ∧ u ∈ l
  cnt : l.length + sn.count false = n + 1
  le : i ≤ l.length
theorem Bfs.init {n : Nat} {B : Int → List Int} {at_ : Int} (h : rg n at_) : Bfs n B at_ [at_] (List.replicate n false) 0 :=
  ⟨by simp, rfl, fun z hz => by simp at hz; subst hz; exact ⟨h, .inl rfl⟩, fun z _ hz => (by rw [Sn_false] at hz; cases hz), fun j _ hj => absurd hj (Nat.not_lt_zero _), by simp; omega, Nat.zero_le _⟩
theorem Bfs.hangs {n : Nat} {B : Int → List Int} {at_ : Int} {l : List Int} {sn : List Bool} {i : Nat} (h : Bfs n B at_ l sn i) {x u : Int} (hx : x ∈ l) (hu : u ∈ B x) : Hangs B at_ u := by
  rcases (h.all x hx).2 with rfl | hh
  · exact .one hu
  · exact .more hh hu
theorem Bfs.add {n : Nat} {B : Int → List Int} {at_ : Int} {l : List Int} {sn : List Bool} {i : Nat} (h : Bfs n B at_ l sn i) {u : Int} (hr : rg n u) (hh : Hangs B at_ u) (hs : Sn sn u = false) : Bfs n B at_ (l ++ [u]) (sn.set u.toNat true) i := by
  have hul : u.toNat < sn.length := by have := h.len; unfold rg at hr; omega
  have hc : (sn.set u.toNat true).count false + 1 = sn.count false := count_set _ _ (by
    rw [List.getElem?_eq_getElem hul]
    unfold Sn at hs
    simpa [hul] using hs)
  have hpos : 0 < l.length := (List.getElem?_eq_some_iff.1 h.head).1
  have hle := h.le
  refine ⟨by rw [List.length_set]; exact h.len, by rw [List.getElem?_append_left hpos]; exact h.head, fun z hz => ?_, fun z hz hz2 => ?_, fun j hj hji v hv => ?_, ?_, by simp; omega⟩
  · rcases List.mem_append.1 hz with hz | hz
    · exact h.all z hz
    · simp at hz; subst hz; exact ⟨hr, .inr hh⟩
  · rw [Sn_set true (by rw [h.len]; exact hr) hz.1] at hz2
    split at hz2
    · rename_i e; subst e; simp
    · exact List.mem_append_left _ (h.seen z hz hz2)
  · rcases Nat.lt_or_ge j l.length with hjl | hjl
    · rw [List.getElem_append_left hjl] at hv
      obtain ⟨h1, h2⟩ := h.done j hjl hji v hv
      exact ⟨h1, List.mem_append_left _ h2⟩
    · omega
  · have := h.cnt
    rw [List.length_append, List.length_singleton]
    omega
theorem Bfs.next {n : Nat} {B : Int → List Int} {at_ : Int} {l : List Int} {sn : List Bool} {i : Nat} (h : Bfs n B at_ l sn i) (hi : i < l.length) (hu : ∀ u ∈ B l[i], u ≠ at_ ∧ u ∈ l) : Bfs n B at_ l sn (i + 1) :=
  ⟨h.len, h.head, h.all, h.seen, fun j hj hji u hh => by
    rcases Nat.lt_or_ge j i with h1 | h1
    · exact h.done j hj h1 u hh
    · have e : j = i := by omega
      subst e
      exact hu u hh, h.cnt, hi⟩
theorem Bfs.none {n : Nat} {B : Int → List Int} {at_ : Int} {l : List Int} {sn : List Bool} {i : Nat} (h : Bfs n B at_ l sn i) (hi : l.length ≤ i) : ¬ Hangs B at_ at_ := by
  have key : ∀ z, Hangs B at_ z → z ≠ at_ ∧ z ∈ l := fun z hz => by
    have cl : ∀ x ∈ l, ∀ u ∈ B x, u ≠ at_ ∧ u ∈ l := fun x hx u hu => by
      obtain ⟨j, hj, rfl⟩ := List.mem_iff_getElem.1 hx
      exact h.done j hj (by omega) u hu
    generalize hv : at_ = v at hz
    have hat : at_ ∈ l := List.mem_of_getElem? h.head
    induction hz with
    | one h1 => subst hv; exact cl _ hat _ h1
    | more _ h1 ih => subst hv; exact cl _ ih.2 _ h1
  exact fun hh => (key _ hh).1 rfl
theorem Bfs.size {n : Nat} {B : Int → List Int} {at_ : Int} {l : List Int} {sn : List Bool} {i : Nat} (h : Bfs n B at_ l sn i) : l.length ≤ n + 1 := by have := h.cnt; omega
/-- What round keeps in memory. -/
structure RndSt (w W : World) (c : Circ) (h : Hd) (g D : Nat) (l : List Int) (sn : List Bool) (v : Value) : Prop where
  chg : Chg w W none_
  box : Blk W w.heap.size 51 (ccells c h)
  gate : Blk W g 3 ((gatesM c).map nu)
  seen : Blk W D 4 (sn.map Value.bool)
  row : W.ownsRow (D + 1) 3 1 v l.length (l.map nu)
theorem RndSt.same {w W W' : World} {c : Circ} {h : Hd} {g D : Nat} {l : List Int} {sn : List Bool} {v : Value} (S : RndSt w W c h g D l sn v) (hc : Chg W W' none_) : RndSt w W' c h g D l sn v :=
  ⟨S.chg.trans hc fun _ _ h => h, S.box.chg hc id, S.gate.chg hc id, S.seen.chg hc id, own_chg S.row hc fun _ _ => id⟩
section
variable {P : Program} {n : Nat} {all : List Oper} {S : World → Prop} {K : Env → World → Prop} {i : Nat} {r : List (Nat × Bool)} {d : Option Tmp} {ty t : TypeId} {e : Env} {w : World} {td : TypeDesc} {sz by_ : Nat} {zv : Value} {ag : Bool}
end
attribute [local irreducible] WC WL WX WS WO OX Does DoesU Enters CV Pure thenQ blockQ retQ Wants retQC
set_option maxRecDepth 100000
end SC
end Go.Proofs.Ytkndegjodnciaaa
end
section
/- trestleref03: symbols. -/
set_option linter.unusedVariables false
set_option linter.unusedSimpArgs false
namespace Go.Proofs.Ytkndegjodnciaaa
namespace SC
open Go.Proofs
/-- What is to be shown later: stepping words stop here. -/
structure Later (p : Prop) : Prop where
  get : p
section
variable {P : Program} {n : Nat} {x y r b : Code} {Q : Post} {e : Env} {w : World}
end
/-- How often a thing has a name before. -/
def SymF (ls : List Sym) (i : Nat) (f : Int → Int → Int) : Prop := ∀ p q, 0 ≤ f p q ∧ (0 < f p q ↔ ∃ k, ∃ hk : k < ls.length, k < i ∧ ls[k].kind = p ∧ ls[k].at_ = q)
theorem SymF.next {ls : List Sym} {i : Nat} {f : Int → Int → Int} (h : SymF ls i f) (hi : i < ls.length) : SymF ls (i + 1) (fun p q => if p = ls[i].kind ∧ q = ls[i].at_ then f ls[i].kind ls[i].at_ + 1 else f p q) := fun p q => by
  by_cases hc : p = ls[i].kind ∧ q = ls[i].at_
  · simp only [if_pos hc]
    have := (h ls[i].kind ls[i].at_).1
    exact ⟨by omega, fun _ => ⟨i, hi, by omega, hc.1.symm, hc.2.symm⟩, fun _ => by omega⟩
  · simp only [if_neg hc]
    refine ⟨(h p q).1, fun hh => ?_, fun ⟨k, hk, hki, h1, h2⟩ => ?_⟩
    · obtain ⟨k, hk, hki, h1, h2⟩ := (h p q).2.1 hh
      exact ⟨k, hk, by omega, h1, h2⟩
    · have : k ≠ i := fun e => by subst e; exact hc ⟨h1.symm, h2.symm⟩
      exact (h p q).2.2 ⟨k, hk, by omega, h1, h2⟩
attribute [local irreducible] WC WL WX WS WO OX Does DoesU Enters CV Pure thenQ blockQ retQ Wants retQC
set_option maxRecDepth 100000
end SC
end Go.Proofs.Ytkndegjodnciaaa
end
section
/- trestleref03: Check. -/
set_option linter.unusedVariables false
set_option linter.unusedSimpArgs false
namespace Go.Proofs.Ytkndegjodnciaaa
namespace SC
open Go.Proofs
attribute [local irreducible] WC WL WX WS WO OX Does DoesU Enters CV Pure thenQ blockQ retQ Wants retQC
set_option maxRecDepth 100000
end SC
end Go.Proofs.Ytkndegjodnciaaa
end
section
/- The order of a right circuit; trestleref07: Next0, Starts0, Values0. -/
set_option linter.unusedVariables false
set_option linter.unusedSimpArgs false
namespace Go.Proofs.Ytkndegjodnciaaa
namespace SC
open Go.Proofs
theorem ownsRow_low {w : World} {base : Nat} {t : TypeId} {sz n : Nat} {v : Value} {xs : List Value} (h : w.ownsRow base t sz v n xs) : w.ownsRow 0 t sz v n xs := ⟨h.1, h.2.imp id fun ⟨g, cap, cur, h1, _, h2⟩ => ⟨g, cap, cur, h1, Nat.zero_le _, h2⟩⟩
/-- A new row of its own, as an entry. -/
theorem own_vec {α : Type} {enc : α → List Value} {sz : Nat} {w w' : World} {t : TypeId} {u : Value} {l : List α} (h : w'.ownsRow w.heap.size t sz u l.length (l.flatMap enc)) (hc : Chg w w' none_) : ∃ A k, u = .slice A l.length k ∧ Mem w' ([.vec enc sz t A k l] ++ [.old w none_]) := by
  obtain ⟨A, k, rfl⟩ := row_form' h
  refine ⟨A, k, rfl, Mem.join (.one (ownsRow_low h)) (.one hc) fun j ⟨E, hE, h1⟩ ⟨F, hF, h2⟩ => ?_⟩
  simp only [List.mem_singleton] at hE hF
  subst hE hF
  have := (World.ownsRow.lt h j h1).1
  have := h2.1
  omega
/-- The order of its gates. -/
noncomputable def ordM (c : Circ) : List Int := by classical exact if h : ∃ out, All c.ands.length (gateB (tabM c) c) out then h.choose else []
theorem ordM_eq {c : Circ} {out : List Int} (h : All c.ands.length (gateB (tabM c) c) out) : ordM c = out := by
  have hex : ∃ out, All c.ands.length (gateB (tabM c) c) out := ⟨out, h⟩
  unfold ordM
  rw [dif_pos hex]
  exact All.only hex.choose_spec h
/-- What Order answers. -/
def OrdR (c : Circ) (v : Value) (N : Mm) : Prop :=
  ((lookM c).2 ≠ 0 ∧ v = .tuple #[.slice none 0 0, nu (lookM c).2] ∧ N = []) ∨ ((lookM c).2 = 0 ∧ ∃ A k, v = .tuple #[.slice A (ordM c).length k, nu 0] ∧ N = [.vec icell 1 3 A k (ordM c)])
theorem OrderG {w : World} {c : Circ} {h js : Hd} (H : CirAt w c h js) (hs : c.Sane) : CVN Try.prog 26 [.agg (ccells c h).toArray] w (OrdR c) := CV.mono (Order_cv H hs) fun v w' ⟨hc, hv⟩ => by
  rcases hv with ⟨h1, rfl⟩ | ⟨h1, out, u, rfl, h2, h3, h4⟩
  · exact ⟨[], .one hc, .inl ⟨h1, rfl, rfl⟩⟩
  · rw [← flat_icell] at h4
    obtain ⟨A, k, rfl, M⟩ := own_vec h4 hc
    rw [← ordM_eq h2] at M ⊢
    exact ⟨_, M, .inr ⟨h1, A, k, rfl, rfl⟩⟩
/-! ### a row that is filled from the left -/
def fillL {α β : Type} (f : α → β) (l : List α) (z : β) (i : Nat) : List β := (l.take i).map f ++ List.replicate (l.length - i) z
theorem fillL_len {α β : Type} {f : α → β} {l : List α} {z : β} {i : Nat} (h : i ≤ l.length) : (fillL f l z i).length = l.length := by unfold fillL; simp; omega
theorem fillL_0 {α β : Type} {f : α → β} {l : List α} {z : β} : fillL f l z 0 = List.replicate l.length z := by unfold fillL; simp
theorem fillL_all {α β : Type} {f : α → β} {l : List α} {z : β} {i : Nat} (h : l.length ≤ i) : fillL f l z i = l.map f := by unfold fillL; rw [List.take_of_length_le h, show l.length - i = 0 by omega]; simp
theorem fillL_set {α β : Type} [Inhabited α] {f : α → β} {l : List α} {z : β} {i : Nat} (h : i < l.length) : (fillL f l z i).set (i : Int).toNat (f (gt l (i : Int))) = fillL f l z (i + 1) := by
  unfold fillL
  rw [gt_nat h, Int.toNat_natCast, List.set_append_right _ _ (by simp; omega)]
  have e1 : i - ((l.take i).map f).length = 0 := by simp; omega
  have e2 : l.length - i = (l.length - (i + 1)) + 1 := by omega
  rw [e1, e2, List.replicate_succ, List.set_cons_zero, List.take_succ_eq_append_getElem h, List.map_append]
  simp
/-- Next, by the values. -/
def nxtM (c : Circ) (v : List Bool) : List Bool := c.latches.map fun x => lv v x.2.1
attribute [local irreducible] WC WL WX WS WO OX Does DoesU Enters CV Pure thenQ blockQ retQ Wants retQC GC GL GS GX RdB thenG blockG retG Rd At gt CVN CVM
set_option maxRecDepth 100000
end SC
end Go.Proofs.Ytkndegjodnciaaa
end
section
/- A right circuit; its values. trestleref07: Starts0, Values0. -/
set_option linter.unusedVariables false
set_option linter.unusedSimpArgs false
namespace Go.Proofs.Ytkndegjodnciaaa
namespace SC
open Go.Proofs
theorem CV.ex {P : Program} {f : FuncId} {args : List Value} {w : World} {R : Value → World → Prop} (h : CV P f args w R) : ∃ v w', R v w' := by
  obtain ⟨e, w', fr, h1, _⟩ := h []
  cases e with
  | returned v => exact ⟨v, w', h1⟩
  | panicked c => exact h1.elim
  | outgrown => exact h1.elim
/-- What is so of a right circuit. -/
structure Right (c : Circ) : Prop where
  tab : TabOk c (tabM c)
  use : UseAll c (tabM c)
  m0 : 0 ≤ c.max
  m1 : c.max ≤ 16384
  lens : ∀ n ∈ c.lens, n ≤ 16384
  sum : sumW c.justice ≤ 16384
  all : All c.ands.length (gateB (tabM c) c) (ordM c)
  ordLen : (ordM c).length = c.ands.length
theorem right_of {w : World} {c : Circ} {h js : Hd} (H : CirAt w c h js) (hs : c.Sane) (he : (lookM c).2 = 0) : Right c := by
  obtain ⟨v, w', _, hv⟩ := CV.ex (Order_cv H hs)
  rcases hv with ⟨h1, _⟩ | ⟨_, out, u, _, h2, h3, _⟩
  · exact absurd he h1
  · obtain ⟨_, g1, g2, g3, _⟩ := lookM_ok he
    obtain ⟨k1, k2, k3, k4⟩ := sizesM_ok g1
    have e1 := ordM_eq h2
    exact ⟨definesM_spec k1 g2, usesM_spec.1 g3, k1, k2, k3, k4, by rw [e1]; exact h2, by rw [e1]; exact h3⟩
def inR (c : Circ) (l : Int) : Prop := 0 ≤ l ∧ l ≤ 2 * c.max + 1
def defR (c : Circ) (l : Int) : Prop := 2 ≤ l ∧ l ≤ 2 * c.max ∧ l % 2 = 0
section
variable {c : Circ} (R : Right c)
include R
theorem Right.nIn : c.inputs.length ≤ 16384 := by have := R.lens c.inputs.length (by simp [Circ.lens]); omega
theorem Right.nLat : c.latches.length ≤ 16384 := by have := R.lens c.latches.length (by simp [Circ.lens]); omega
theorem Right.nAnd : c.ands.length ≤ 16384 := by have := R.lens c.ands.length (by simp [Circ.lens]); omega
theorem Right.nBad : c.bads.length ≤ 16384 := by have := R.lens c.bads.length (by simp [Circ.lens]); omega
theorem Right.nCon : c.constraints.length ≤ 16384 := by have := R.lens c.constraints.length (by simp [Circ.lens]); omega
theorem Right.nFair : c.fairness.length ≤ 16384 := by have := R.lens c.fairness.length (by simp [Circ.lens]); omega
theorem Right.nJust : c.justice.length ≤ 16384 := by have := R.lens c.justice.length (by simp [Circ.lens]); omega
theorem Right.inp {l : Int} (h : l ∈ c.inputs) : defR c l := by
  obtain ⟨j, hj, rfl⟩ := List.mem_iff_getElem.1 h
  have := (R.tab.inp j hj).1
  unfold defBad at this; unfold defR; omega
theorem Right.lat {x : Tri} (h : x ∈ c.latches) : defR c x.1 ∧ inR c x.2.1 ∧ (x.2.2 = 0 ∨ x.2.2 = 1 ∨ x.2.2 = x.1) := by
  obtain ⟨j, hj, rfl⟩ := List.mem_iff_getElem.1 h
  have h1 := (R.tab.lat j hj).1
  have h2 := (R.tab.lat j hj).2.2
  have h3 := R.use.next _ (List.getElem_mem hj)
  unfold defBad at h1; unfold badReset at h2; unfold useOk at h3; unfold defR inR
  omega
theorem Right.gate {x : Tri} (h : x ∈ c.ands) : defR c x.1 ∧ inR c x.2.1 ∧ inR c x.2.2 := by
  obtain ⟨j, hj, rfl⟩ := List.mem_iff_getElem.1 h
  have h1 := (R.tab.gat j hj).1
  have h3 := R.use.ands _ (List.getElem_mem hj)
  unfold defBad at h1; unfold useOk at h3; unfold defR inR
  omega
theorem Right.con {l : Int} (h : l ∈ c.constraints) : inR c l := ⟨(R.use.constraints l h).1, (R.use.constraints l h).2.1⟩
theorem Right.bad {l : Int} (h : l ∈ c.bads) : inR c l := ⟨(R.use.bads l h).1, (R.use.bads l h).2.1⟩
theorem Right.fair {l : Int} (h : l ∈ c.fairness) : inR c l := ⟨(R.use.fairness l h).1, (R.use.fairness l h).2.1⟩
theorem Right.just {ls : List Int} {l : Int} (h : ls ∈ c.justice) (h2 : l ∈ ls) : inR c l := ⟨(R.use.justice ls h l h2).1, (R.use.justice ls h l h2).2.1⟩
theorem Right.ord {i : Int} (h : i ∈ ordM c) : 0 ≤ i ∧ i < c.ands.length := R.all.told.all i h
end
theorem inR.has {c : Circ} {l : Int} {v : List Bool} (h : inR c l) (hm : c.max ≤ 16384) (hv : v.length = (c.max + 1).toNat) : hasL v l := by unfold inR at h; unfold hasL; omega
theorem defR.in {c : Circ} {l : Int} (h : defR c l) : inR c l := by unfold defR at h; unfold inR; omega
/-! ### the values -/
def vIn (c : Circ) (r : List Bool) (i : Nat) : List Bool := (List.range i).foldl (fun v (k : Nat) => v.set (gt c.inputs (k : Int) / 2).toNat (gt r (k : Int))) (List.replicate (c.max + 1).toNat false)
def vLt (c : Circ) (s v : List Bool) (i : Nat) : List Bool := (List.range i).foldl (fun v (k : Nat) => v.set ((gt c.latches (k : Int)).1 / 2).toNat (gt s (k : Int))) v
def vAn (c : Circ) (ord : List Int) (v : List Bool) (i : Nat) : List Bool := (List.range i).foldl (fun v (k : Nat) => v.set ((gt c.ands (gt ord (k : Int))).1 / 2).toNat (lv v (gt c.ands (gt ord (k : Int))).2.1 && lv v (gt c.ands (gt ord (k : Int))).2.2)) v
noncomputable def valM (c : Circ) (s r : List Bool) : List Bool := vAn c (ordM c) (vLt c s (vIn c r c.inputs.length) c.latches.length) (ordM c).length
theorem fold_snoc {α : Type} (f : α → Nat → α) (a : α) (i : Nat) : (List.range (i + 1)).foldl f a = f ((List.range i).foldl f a) i := by rw [List.range_succ, List.foldl_append]; rfl
theorem fold_len (g : List Bool → Nat → Nat) (h : List Bool → Nat → Bool) (v : List Bool) (i : Nat) : ((List.range i).foldl (fun v k => v.set (g v k) (h v k)) v).length = v.length := by
  induction i with
  | zero => simp
  | succ i ih => rw [fold_snoc, List.length_set, ih]
theorem vIn_len (c : Circ) (r : List Bool) (i : Nat) : (vIn c r i).length = (c.max + 1).toNat := by unfold vIn; rw [fold_len]; simp
theorem vLt_len (c : Circ) (s v : List Bool) (i : Nat) : (vLt c s v i).length = v.length := by unfold vLt; rw [fold_len]
theorem vAn_len (c : Circ) (ord : List Int) (v : List Bool) (i : Nat) : (vAn c ord v i).length = v.length := by unfold vAn; rw [fold_len]
theorem valM_len (c : Circ) (s r : List Bool) : (valM c s r).length = (c.max + 1).toNat := by unfold valM; rw [vAn_len, vLt_len, vIn_len]
/-- May the state begin? -/
def okSt (x : Tri) (b : Bool) : Bool := (decide (x.2.2 ≠ 0) || !b) && (decide (x.2.2 ≠ 1) || b)
def startsM (c : Circ) (s : List Bool) (i : Nat) : Bool := (List.range i).all fun (k : Nat) => okSt (gt c.latches (k : Int)) (gt s (k : Int))
attribute [local irreducible] WC WL WX WS WO OX Does DoesU Enters CV Pure thenQ blockQ retQ Wants retQC GC GL GS GX RdB thenG blockG retG Rd At gt CVN CVM
set_option maxRecDepth 100000
end SC
end Go.Proofs.Ytkndegjodnciaaa
end
section
/- trestleref07: Values0. -/
set_option linter.unusedVariables false
set_option linter.unusedSimpArgs false
namespace Go.Proofs.Ytkndegjodnciaaa
namespace SC
open Go.Proofs
theorem vIn_succ (c : Circ) (r : List Bool) (i : Nat) : vIn c r (i + 1) = (vIn c r i).set (gt c.inputs (i : Int) / 2).toNat (gt r (i : Int)) := by unfold vIn; rw [fold_snoc]
theorem vLt_succ (c : Circ) (s v : List Bool) (i : Nat) : vLt c s v (i + 1) = (vLt c s v i).set ((gt c.latches (i : Int)).1 / 2).toNat (gt s (i : Int)) := by unfold vLt; rw [fold_snoc]
theorem vAn_succ (c : Circ) (o : List Int) (v : List Bool) (i : Nat) : vAn c o v (i + 1) = (vAn c o v i).set ((gt c.ands (gt o (i : Int))).1 / 2).toNat (lv (vAn c o v i) (gt c.ands (gt o (i : Int))).2.1 && lv (vAn c o v i) (gt c.ands (gt o (i : Int))).2.2) := by unfold vAn; rw [fold_snoc]
attribute [local irreducible] WC WL WX WS WO OX Does DoesU Enters CV Pure thenQ blockQ retQ Wants retQC GC GL GS GX RdB thenG blockG retG Rd At gt CVN CVM
set_option maxRecDepth 100000
end SC
end Go.Proofs.Ytkndegjodnciaaa
end
section
/- trestleref07: looked, Values, Next, Holds, Starts. -/
set_option linter.unusedVariables false
set_option linter.unusedSimpArgs false
namespace Go.Proofs.Ytkndegjodnciaaa
namespace SC
open Go.Proofs
/-- A circuit that can be read, and what is so of any. -/
structure CirIn (w : World) (c : Circ) (h js : Hd) : Prop where
  at_ : CirAt w c h js
  sane : c.Sane
  okay : c.Okay
  fits : c.Fits
theorem CirIn.chg {w w' : World} {c : Circ} {h js : Hd} (H : CirIn w c h js) (hc : Chg w w' none_) : CirIn w' c h js := ⟨H.at_.chg hc, H.sane, H.okay, H.fits⟩
theorem In.old {Γ : Mm} {w w0 : World} (h : In Γ (.old w0 none_)) (M : Mem w Γ) : Chg w0 w none_ := h.ok M
/-- What is wrong with a step. -/
noncomputable def stepE (c : Circ) (s r : List Bool) : Int := if (lookM c).2 ≠ 0 then (lookM c).2 else if s.length ≠ c.latches.length ∨ r.length ≠ c.inputs.length then 4 else 0
theorem stepE_look {c : Circ} {s r : List Bool} (h : (lookM c).2 ≠ 0) : stepE c s r = (lookM c).2 := if_pos h
theorem stepE_len {c : Circ} {s r : List Bool} (h : (lookM c).2 = 0) (h2 : s.length ≠ c.latches.length ∨ r.length ≠ c.inputs.length) : stepE c s r = 4 := by unfold stepE; rw [if_neg (by omega), if_pos h2]
theorem stepE_ok {c : Circ} {s r : List Bool} (h : (lookM c).2 = 0) (h2 : s.length = c.latches.length) (h3 : r.length = c.inputs.length) : stepE c s r = 0 := by unfold stepE; rw [if_neg (by omega), if_neg (by omega)]
noncomputable def valsM (c : Circ) (s r : List Bool) : List Bool := if stepE c s r = 0 then valM c s r else []
noncomputable def nextM (c : Circ) (s r : List Bool) : List Bool := if stepE c s r = 0 then nxtM c (valM c s r) else []
noncomputable def holdsM (c : Circ) (s r : List Bool) : Bool := if stepE c s r = 0 then c.constraints.all (lv (valM c s r)) else false
def LookR (c : Circ) (s r : List Bool) (v : Value) (N : Mm) : Prop :=
  (stepE c s r ≠ 0 ∧ v = .tuple #[.slice none 0 0, nu (stepE c s r)] ∧ N = []) ∨ (stepE c s r = 0 ∧ ∃ A k, v = .tuple #[.slice A (ordM c).length k, nu 0] ∧ N = [.vec icell 1 3 A k (ordM c)])
def ValsR (c : Circ) (s r : List Bool) (v : Value) (N : Mm) : Prop := ∃ A k, v = .tuple #[.slice A (valsM c s r).length k, nu (stepE c s r)] ∧ N = [.vec booc 1 4 A k (valsM c s r)]
def NextR (c : Circ) (s r : List Bool) (v : Value) (N : Mm) : Prop := ∃ A k, v = .tuple #[.slice A (nextM c s r).length k, nu (stepE c s r)] ∧ N = [.vec booc 1 4 A k (nextM c s r)]
attribute [local irreducible] WC WL WX WS WO OX Does DoesU Enters CV Pure thenQ blockQ retQ Wants retQC GC GL GS GX RdB thenG blockG retG Rd At gt CVN CVM
set_option maxRecDepth 100000
section
variable {w : World} {c : Circ} {h js : Hd} {S T : Option Addr} {k2 k3 : Nat} {s r : List Bool} (H : CirIn w c h js) (hS : RowA w booc 1 S s) (hT : RowA w booc 1 T r)
include H hS hT
end
/-- Whether a state may begin, and what is wrong. -/
noncomputable def startE (c : Circ) (s : List Bool) : Int := if (lookM c).2 ≠ 0 then (lookM c).2 else if s.length ≠ c.latches.length then 4 else 0
noncomputable def startB (c : Circ) (s : List Bool) : Bool := if startE c s = 0 then startsM c s c.latches.length else false
end SC
end Go.Proofs.Ytkndegjodnciaaa
end
section
/- sim: is, values, next, holds. -/
set_option linter.unusedVariables false
set_option linter.unusedSimpArgs false
namespace Go.Proofs.Ytkndegjodnciaaa
namespace SC
open Go.Proofs
/-- The runner's cells. -/
noncomputable def rcells (c : Circ) (h : Hd) (B : Option Addr) (k : Nat) : List Value := ccells c h ++ [.slice B (ordM c).length k]
theorem In.box {Γ : Mm} {w : World} {b : Nat} {t : TypeId} {cs : List Value} (h : In Γ (.box b t cs)) (M : Mem w Γ) : Blk w b t cs := h.ok M
theorem In.row {Γ : Mm} {w : World} {α : Type} {enc : α → List Value} {sz : Nat} [H : Enc enc sz] {t : TypeId} {A : Option Addr} {c : Nat} {l : List α} (h : In Γ (.vec enc sz t A c l)) (M : Mem w Γ) : RowA w enc sz A l := (Rd.own h H).at M
instance : Fn Try.prog 143 := ⟨fun args w => Try.call143 args w⟩
instance : Fn Try.prog 146 := ⟨fun args w => Try.call146 args w⟩
instance : Fn Try.prog 150 := ⟨fun args w => Try.call150 args w⟩
attribute [local irreducible] WC WL WX WS WO OX Does DoesU Enters CV Pure thenQ blockQ retQ Wants retQC GC GL GS GX RdB thenG blockG retG Rd At gt CVN CVM
set_option maxRecDepth 100000
theorem is_cv {w : World} {A : Option Addr} {c k : Nat} {v : List Bool} {l : Int} (hA : RowA w booc 1 A v) (hk : k = v.length) (hl : hasL v l) : CVN Try.prog 145 [.slice A k c, nu l] w fun r N => N = [] ∧ r = .bool (lv v l) := by
  obtain ⟨h0, h1, h2⟩ := hl
  refine CVN.enter 14 [4] Try.func145 rfl rfl rfl (by decide) rfl ?_
  repeat' (first
      | (apply GC_seqK; intro K hK)
      | (apply hK; clear hK K)
      | (apply GC_region)
      | (apply GL_nil)
      | (apply thenG_normal)
      | (apply GC_ret)
      | (apply retG1; eq_refl)
      | (apply GL_on; eq_refl; eq_refl)
      | (apply G_pv; eq_refl; first | exact trivial | omega)
      | (apply G_rd; eq_refl; (first | (apply Rd.own; (repeat first | exact In.here | apply In.there | apply In.skip); infer_instance) | (apply Rd.old; (repeat first | exact In.here | apply In.there | apply In.skip); assumption) | (apply Rd.oldR; (repeat first | exact In.here | apply In.there | apply In.skip); assumption) | exact Rd.nil | assumption); (case ih => infer_instance); omega; omega; eq_refl)
      | (apply G_cmpD; eq_refl; eq_refl; (case hd => infer_instance))
      | (apply G_ix; eq_refl; eq_refl; (first | (apply Rd.own; (repeat first | exact In.here | apply In.there | apply In.skip); infer_instance) | (apply Rd.old; (repeat first | exact In.here | apply In.there | apply In.skip); assumption) | (apply Rd.oldR; (repeat first | exact In.here | apply In.there | apply In.skip); assumption) | exact Rd.nil | assumption); (first | eq_refl | omega); omega; omega)
      | (apply G_neqB; eq_refl; eq_refl))
  exact ⟨[], (by repeat first | exact Wk.nil | exact Wk.refl | (apply Wk.cons; (focus ((repeat first | exact Rem.here | apply Rem.there | apply Rem.skip); done))) | apply Wk.nilv | apply Wk.last | apply Wk.drop), rfl, rfl⟩
theorem of_cv {w : World} {A : Option Addr} {b c k : Nat} {v : List Bool} {l : Int} (hB : Blk w b 62 [.slice A k c]) (hA : RowA w booc 1 A v) (hk : k = v.length) (hl : hasL v l) : CVN Try.prog 143 [nu l, pt b] w fun r N => N = [] ∧ r = .bool (lv v l) := by
  obtain ⟨h0, h1, h2⟩ := hl
  refine CVN.enter 13 [3] Try.func143 rfl rfl rfl (by decide) rfl ?_
  repeat' (first
      | (apply GC_seqK; intro K hK)
      | (apply hK; clear hK K)
      | (apply GC_region)
      | (apply GL_nil)
      | (apply thenG_normal)
      | (apply GC_ret)
      | (apply retG1; eq_refl)
      | (apply GL_on; eq_refl; eq_refl)
      | (apply G_pv; eq_refl; first | exact trivial | omega)
      | (apply G_ldO; eq_refl; (repeat first | exact In.here | apply In.there | apply In.skip); assumption; eq_refl)
      | (apply G_rd; eq_refl; (first | (apply Rd.own; (repeat first | exact In.here | apply In.there | apply In.skip); infer_instance) | (apply Rd.old; (repeat first | exact In.here | apply In.there | apply In.skip); assumption) | (apply Rd.oldR; (repeat first | exact In.here | apply In.there | apply In.skip); assumption) | exact Rd.nil | assumption); (case ih => infer_instance); omega; omega; eq_refl)
      | (apply G_cmpD; eq_refl; eq_refl; (case hd => infer_instance))
      | (apply G_ix; eq_refl; eq_refl; (first | (apply Rd.own; (repeat first | exact In.here | apply In.there | apply In.skip); infer_instance) | (apply Rd.old; (repeat first | exact In.here | apply In.there | apply In.skip); assumption) | (apply Rd.oldR; (repeat first | exact In.here | apply In.there | apply In.skip); assumption) | exact Rd.nil | assumption); (first | eq_refl | omega); omega; omega)
      | (apply G_neqB; eq_refl; eq_refl))
  exact ⟨[], (by repeat first | exact Wk.nil | exact Wk.refl | (apply Wk.cons; (focus ((repeat first | exact Rem.here | apply Rem.there | apply Rem.skip); done))) | apply Wk.nilv | apply Wk.last | apply Wk.drop), rfl, rfl⟩
theorem values_cv {w : World} {c : Circ} {h js : Hd} {p : Nat} {B S T : Option Addr} {k1 k2 k3 : Nat} {s r : List Bool} (R : Right c) (hP : Blk w p 163 (rcells c h B k1)) (H : CirAt w c h js) (hB : RowA w icell 1 B (ordM c)) (hS : RowA w booc 1 S s) (hT : RowA w booc 1 T r) (hs : s.length = c.latches.length) (hr : r.length = c.inputs.length) :
    CVN Try.prog 108 [pt p, .slice S s.length k2, .slice T r.length k3] w fun v N => ∃ A' k', v = .slice A' (valM c s r).length k' ∧ N = [.vec booc 1 4 A' k' (valM c s r)] := by
  have hLat := H.latches
  have hInp := H.inputs
  have hAnd := H.ands
  have m0 := R.m0
  have m1 := R.m1
  have n1 := R.nIn
  have n2 := R.nLat
  have n3 := R.nAnd
  have n4 := R.ordLen
  refine CVN.enter 107 [6] Try.func108 rfl rfl rfl (by decide) rfl ?_
  repeat' (first
      | (apply GC_seqK; intro K hK)
      | (apply hK; clear hK K)
      | (apply GC_block)
      | (apply GC_region)
      | (apply GL_nil)
      | (apply thenG_normal)
      | (apply GL_on; eq_refl; eq_refl)
      | (apply G_pv; eq_refl; first | exact trivial | omega)
      | (apply G_field; eq_refl)
      | (apply G_ldO; eq_refl; (repeat first | exact In.here | apply In.there | apply In.skip); assumption; eq_refl)
      | (apply G_len; eq_refl)
      | (apply G_alloc; eq_refl; intro _)
      | (apply G_st; (first | exact wr_p | kernel_rfl); eq_refl; eq_refl; eq_refl; eq_refl; (repeat first | exact Upd.here | apply Upd.there | apply Upd.skip); (first | decide | exact Nat.le_of_ble_eq_true rfl))
      | (apply G_makeI booc; eq_refl; eq_refl; omega; eq_refl; omega; decide; intro _))
  rename_i b1 b0
  refine GC_loopK [0, 1, 2, 7, 26] (fun s : Nat × List Bool => [(27, nu s.1)]) (fun s => [.box b0 62 [.slice (some ⟨b1, 0, none⟩) (c.max + 1).toNat (c.max + 1).toNat], .vec booc 1 4 (some ⟨b1, 0, none⟩) (c.max + 1).toNat s.2, .old w none_]) (fun s => s.1 ≤ c.inputs.length ∧ s.2 = vIn c r s.1) (fun s => c.inputs.length - s.1) (0, _) (by repeat first | exact Pick.nil | (apply Pick.cons; eq_refl)) (by repeat first | exact trivial | refine ⟨rfl, ?_⟩) (by repeat first | exact Wk.nil | exact Wk.refl | (apply Wk.cons; (focus ((repeat first | exact Rem.here | apply Rem.there | apply Rem.skip); done))) | apply Wk.nilv | apply Wk.last | apply Wk.drop) ⟨Nat.zero_le _, rfl⟩ ?_
  rintro ⟨i, v⟩ ⟨hi, hv⟩
  dsimp only at hi hv ⊢
  have hlen : v.length = (c.max + 1).toNat := by rw [hv, vIn_len]
  rcases Nat.lt_or_ge i c.inputs.length with hlt | hge
  · have hd := R.inp (gt_mem (l := c.inputs) (i := (i : Int)) (by omega) (by omega))
    have hst := vIn_succ c r i
    rw [← hv] at hst
    unfold defR at hd
    repeat' (first
      | (apply GC_seqK; intro K hK)
      | (apply hK; clear hK K)
      | (apply GC_block)
      | (apply GC_region)
      | (apply GL_nil)
      | (apply thenG_normal)
      | (apply blockG_normal)
      | (apply GC_skip)
      | (apply GC_if_true; eq_refl)
      | (apply GL_on; eq_refl; eq_refl)
      | (refine GC_draws (id := 5) [.q 0, .q 1, .q 2, .q 3, .q 4, .q 5, .q 6, .q 7, .q 8, .q 9, .q 10, .q 11, .q 12, .q 13, .q 14, .c 15] mixed (by kernel_rfl) (by kernel_rfl) ?_)
      | (apply GS_nil)
      | (apply GS_qon; eq_refl; eq_refl; eq_refl; eq_refl)
      | (apply GS_con; eq_refl; eq_refl; eq_refl; eq_refl)
      | (apply G_pv; eq_refl; first | exact trivial | omega)
      | (apply G_field; eq_refl)
      | (apply G_ld; eq_refl; (repeat first | exact In.here | apply In.there | apply In.skip); eq_refl)
      | (apply G_ldO; eq_refl; (repeat first | exact In.here | apply In.there | apply In.skip); assumption; eq_refl)
      | (apply G_rd; eq_refl; (first | (apply Rd.own; (repeat first | exact In.here | apply In.there | apply In.skip); infer_instance) | (apply Rd.old; (repeat first | exact In.here | apply In.there | apply In.skip); assumption) | (apply Rd.oldR; (repeat first | exact In.here | apply In.there | apply In.skip); assumption) | exact Rd.nil | assumption); (case ih => infer_instance); omega; omega; eq_refl)
      | (apply G_cmpT; eq_refl; eq_refl; omega)
      | (apply G_ix; eq_refl; eq_refl; (first | (apply Rd.own; (repeat first | exact In.here | apply In.there | apply In.skip); infer_instance) | (apply Rd.old; (repeat first | exact In.here | apply In.there | apply In.skip); assumption) | (apply Rd.oldR; (repeat first | exact In.here | apply In.there | apply In.skip); assumption) | exact Rd.nil | assumption); (first | eq_refl | omega); omega; omega)
      | (apply G_stV; (first | exact wr_p | kernel_rfl); eq_refl; eq_refl; eq_refl; eq_refl; (repeat first | exact Upd.here | apply Upd.there | apply Upd.skip); infer_instance; infer_instance; eq_refl; omega; (try simp only [List.length_set, List.length_append, List.length_replicate]); omega))
    exact ⟨(i + 1, _), (by repeat first | exact trivial | refine ⟨rfl, ?_⟩), (by repeat first | exact Wk.nil | exact Wk.refl | (apply Wk.cons; (focus ((repeat first | exact Rem.here | apply Rem.there | apply Rem.skip); done))) | apply Wk.nilv | apply Wk.last | apply Wk.drop), ⟨hlt, hst.symm⟩, by simp only; omega⟩
  · obtain rfl : i = c.inputs.length := by omega
    repeat' (first
      | (apply GC_seqK; intro K hK)
      | (apply hK; clear hK K)
      | (clear hK K; apply hK; clear hK K)
      | (apply GC_block)
      | (apply GC_region)
      | (apply GL_nil)
      | (apply thenG_normal)
      | (apply thenG_exit)
      | (apply blockG_hit)
      | (apply GC_exit)
      | (apply GC_if_false; eq_refl)
      | (apply GL_on; eq_refl; eq_refl)
      | (apply G_pv; eq_refl; first | exact trivial | omega)
      | (apply G_field; eq_refl)
      | (apply G_ldO; eq_refl; (repeat first | exact In.here | apply In.there | apply In.skip); assumption; eq_refl)
      | (apply G_cmpF; eq_refl; eq_refl; omega)
      | (apply G_len; eq_refl))
    refine GC_loopK [0, 1, 2, 7, 51] (fun s : Nat × List Bool => [(52, nu s.1)]) (fun s => [.box b0 62 [.slice (some ⟨b1, 0, none⟩) (c.max + 1).toNat (c.max + 1).toNat], .vec booc 1 4 (some ⟨b1, 0, none⟩) (c.max + 1).toNat s.2, .old w none_]) (fun t => t.1 ≤ c.latches.length ∧ t.2 = vLt c s v t.1) (fun s => c.latches.length - s.1) (0, _) (by repeat first | exact Pick.nil | (apply Pick.cons; eq_refl)) (by repeat first | exact trivial | refine ⟨rfl, ?_⟩) (by repeat first | exact Wk.nil | exact Wk.refl | (apply Wk.cons; (focus ((repeat first | exact Rem.here | apply Rem.there | apply Rem.skip); done))) | apply Wk.nilv | apply Wk.last | apply Wk.drop) ⟨Nat.zero_le _, rfl⟩ ?_
    rintro ⟨i, v2⟩ ⟨hi2, hv2⟩
    dsimp only at hi2 hv2 ⊢
    have hlen2 : v2.length = (c.max + 1).toNat := by rw [hv2, vLt_len, hlen]
    rcases Nat.lt_or_ge i c.latches.length with hlt | hge
    · have hd := (R.lat (gt_mem (l := c.latches) (i := (i : Int)) (by omega) (by omega))).1
      have hst := vLt_succ c s v i
      rw [← hv2] at hst
      unfold defR at hd
      repeat' (first
      | (apply GC_seqK; intro K hK)
      | (apply hK; clear hK K)
      | (apply GC_block)
      | (apply GC_region)
      | (apply GL_nil)
      | (apply thenG_normal)
      | (apply blockG_normal)
      | (apply GC_skip)
      | (apply GC_if_true; eq_refl)
      | (apply GL_on; eq_refl; eq_refl)
      | (refine GC_draws (id := 10) [.q 0, .q 1, .q 2, .q 3, .q 4, .q 5, .q 6, .q 7, .q 8, .q 9, .q 10, .q 11, .q 12, .q 13, .q 14, .q 15, .c 16] mixed (by kernel_rfl) (by kernel_rfl) ?_)
      | (apply GS_nil)
      | (apply GS_qon; eq_refl; eq_refl; eq_refl; eq_refl)
      | (apply GS_con; eq_refl; eq_refl; eq_refl; eq_refl)
      | (apply G_pv; eq_refl; first | exact trivial | omega)
      | (apply G_field; eq_refl)
      | (apply G_fieldP; eq_refl)
      | (apply G_ld; eq_refl; (repeat first | exact In.here | apply In.there | apply In.skip); eq_refl)
      | (apply G_ldO; eq_refl; (repeat first | exact In.here | apply In.there | apply In.skip); assumption; eq_refl)
      | (apply G_rd; eq_refl; (first | (apply Rd.own; (repeat first | exact In.here | apply In.there | apply In.skip); infer_instance) | (apply Rd.old; (repeat first | exact In.here | apply In.there | apply In.skip); assumption) | (apply Rd.oldR; (repeat first | exact In.here | apply In.there | apply In.skip); assumption) | exact Rd.nil | assumption); (case ih => infer_instance); omega; omega; eq_refl)
      | (apply G_cmpT; eq_refl; eq_refl; omega)
      | (apply G_ix; eq_refl; eq_refl; (first | (apply Rd.own; (repeat first | exact In.here | apply In.there | apply In.skip); infer_instance) | (apply Rd.old; (repeat first | exact In.here | apply In.there | apply In.skip); assumption) | (apply Rd.oldR; (repeat first | exact In.here | apply In.there | apply In.skip); assumption) | exact Rd.nil | assumption); (first | eq_refl | omega); omega; omega)
      | (apply G_stV; (first | exact wr_p | kernel_rfl); eq_refl; eq_refl; eq_refl; eq_refl; (repeat first | exact Upd.here | apply Upd.there | apply Upd.skip); infer_instance; infer_instance; eq_refl; omega; (try simp only [List.length_set, List.length_append, List.length_replicate]); omega))
      exact ⟨(i + 1, _), (by repeat first | exact trivial | refine ⟨rfl, ?_⟩), (by repeat first | exact Wk.nil | exact Wk.refl | (apply Wk.cons; (focus ((repeat first | exact Rem.here | apply Rem.there | apply Rem.skip); done))) | apply Wk.nilv | apply Wk.last | apply Wk.drop), ⟨hlt, hst.symm⟩, by simp only; omega⟩
    · obtain rfl : i = c.latches.length := by omega
      repeat' (first
      | (apply GC_seqK; intro K hK)
      | (apply hK; clear hK K)
      | (clear hK K; apply hK; clear hK K)
      | (apply GC_block)
      | (apply GC_region)
      | (apply GL_nil)
      | (apply thenG_normal)
      | (apply thenG_exit)
      | (apply blockG_hit)
      | (apply GC_exit)
      | (apply GC_if_false; eq_refl)
      | (apply GL_on; eq_refl; eq_refl)
      | (apply G_pv; eq_refl; first | exact trivial | omega)
      | (apply G_field; eq_refl)
      | (apply G_ldO; eq_refl; (repeat first | exact In.here | apply In.there | apply In.skip); assumption; eq_refl)
      | (apply G_cmpF; eq_refl; eq_refl; omega)
      | (apply G_len; eq_refl)
      | (apply G_fun; eq_refl))
      refine GC_loopK [0, 1, 2, 7, 10, 76, 77] (fun s : Nat × List Bool => [(78, nu s.1)]) (fun s => [.box b0 62 [.slice (some ⟨b1, 0, none⟩) (c.max + 1).toNat (c.max + 1).toNat], .vec booc 1 4 (some ⟨b1, 0, none⟩) (c.max + 1).toNat s.2, .old w none_]) (fun t => t.1 ≤ (ordM c).length ∧ t.2 = vAn c (ordM c) v2 t.1) (fun s => (ordM c).length - s.1) (0, _) (by repeat first | exact Pick.nil | (apply Pick.cons; eq_refl)) (by repeat first | exact trivial | refine ⟨rfl, ?_⟩) (by repeat first | exact Wk.nil | exact Wk.refl | (apply Wk.cons; (focus ((repeat first | exact Rem.here | apply Rem.there | apply Rem.skip); done))) | apply Wk.nilv | apply Wk.last | apply Wk.drop) ⟨Nat.zero_le _, rfl⟩ ?_
      rintro ⟨i, v3⟩ ⟨hi3, hv3⟩
      dsimp only at hi3 hv3 ⊢
      have hlen3 : v3.length = (c.max + 1).toNat := by rw [hv3, vAn_len, hlen2]
      rcases Nat.lt_or_ge i (ordM c).length with hlt | hge
      · have ho := R.ord (gt_mem (l := ordM c) (i := (i : Int)) (by omega) (by omega))
        have hst := vAn_succ c (ordM c) v2 i
        rw [← hv3] at hst
        obtain ⟨hd, hl1, hl2⟩ := R.gate (gt_mem (l := c.ands) ho.1 ho.2)
        have hl1' := hl1.has m1 hlen3
        have hl2' := hl2.has m1 hlen3
        unfold defR at hd
        have hlit : ∀ Γ, In Γ (.box b0 62 [.slice (some ⟨b1, 0, none⟩) (c.max + 1).toNat (c.max + 1).toNat]) → In Γ (.vec booc 1 4 (some ⟨b1, 0, none⟩) (c.max + 1).toNat v3) → ∀ l, hasL v3 l → ∀ w', Mem w' Γ → CVN Try.prog 143 ([nu l] ++ (#[pt b0] : Array Value).toList) w' fun r N => N = [] ∧ r = .bool (lv v3 l) := fun Γ h0 hi l hl w' M => of_cv (h0.box M) (hi.row M) hlen3.symm hl
        cases hx : lv v3 (gt c.ands (gt (ordM c) (i : Int))).2.1
        all_goals
          rw [hx] at hst
          repeat' (first
      | (apply G_callF; eq_refl; eq_refl; infer_instance; eq_refl; (apply hlit; (repeat first | exact In.here | apply In.there | apply In.skip); (repeat first | exact In.here | apply In.there | apply In.skip); assumption); (first | rw [hx] | skip); rintro _ _ ⟨rfl, rfl⟩)
      | (apply GC_seqK; intro K hK)
      | (apply hK; clear hK K)
      | (apply GC_block)
      | (apply GC_region)
      | (apply GL_nil)
      | (apply thenG_normal)
      | (apply blockG_normal)
      | (apply GC_skip)
      | (apply GC_if_true; eq_refl)
      | (apply GL_on; eq_refl; eq_refl)
      | (refine GC_draws (id := 17) [.q 0, .q 1, .q 2, .q 3, .q 4, .q 5, .q 6, .c 7, .q 8, .q 9, .q 10, .q 11, .c 12, .q 13, .q 14, .c 15] mixed (by kernel_rfl) (by kernel_rfl) ?_)
      | (apply GS_nil)
      | (apply GS_qon; eq_refl; eq_refl; eq_refl; eq_refl)
      | (apply GS_qoff; eq_refl; eq_refl; eq_refl; eq_refl)
      | (apply GS_con; eq_refl; eq_refl; eq_refl; eq_refl)
      | (apply GS_coff; eq_refl; eq_refl; eq_refl; eq_refl)
      | (apply G_pv; eq_refl; first | exact trivial | omega)
      | (apply G_field; eq_refl)
      | (apply G_ld; eq_refl; (repeat first | exact In.here | apply In.there | apply In.skip); eq_refl)
      | (apply G_ldO; eq_refl; (repeat first | exact In.here | apply In.there | apply In.skip); assumption; eq_refl)
      | (apply G_rd; eq_refl; (first | (apply Rd.own; (repeat first | exact In.here | apply In.there | apply In.skip); infer_instance) | (apply Rd.old; (repeat first | exact In.here | apply In.there | apply In.skip); assumption) | (apply Rd.oldR; (repeat first | exact In.here | apply In.there | apply In.skip); assumption) | exact Rd.nil | assumption); (case ih => infer_instance); omega; omega; eq_refl)
      | (apply G_rdW; eq_refl; (first | (apply Rd.own; (repeat first | exact In.here | apply In.there | apply In.skip); infer_instance) | (apply Rd.old; (repeat first | exact In.here | apply In.there | apply In.skip); assumption) | (apply Rd.oldR; (repeat first | exact In.here | apply In.there | apply In.skip); assumption) | exact Rd.nil | assumption); infer_instance; (case ih => infer_instance); omega; omega)
      | (apply G_cmpT; eq_refl; eq_refl; omega)
      | (apply G_ix; eq_refl; eq_refl; (first | (apply Rd.own; (repeat first | exact In.here | apply In.there | apply In.skip); infer_instance) | (apply Rd.old; (repeat first | exact In.here | apply In.there | apply In.skip); assumption) | (apply Rd.oldR; (repeat first | exact In.here | apply In.there | apply In.skip); assumption) | exact Rd.nil | assumption); (first | eq_refl | omega); omega; omega)
      | (apply G_alloc; eq_refl; intro _)
      | (apply G_stV; (first | exact wr_p | kernel_rfl); eq_refl; eq_refl; eq_refl; eq_refl; (repeat first | exact Upd.here | apply Upd.there | apply Upd.skip); infer_instance; infer_instance; eq_refl; omega; (try simp only [List.length_set, List.length_append, List.length_replicate]); omega)
      | (apply G_stW; (first | exact wr_p | kernel_rfl); eq_refl; eq_refl; eq_refl; eq_refl; (repeat first | exact Upd.here | apply Upd.there | apply Upd.skip); eq_refl))
        all_goals exact ⟨(i + 1, _), (by repeat first | exact trivial | refine ⟨rfl, ?_⟩), (by repeat first | exact Wk.nil | exact Wk.refl | (apply Wk.cons; (focus ((repeat first | exact Rem.here | apply Rem.there | apply Rem.skip); done))) | apply Wk.nilv | apply Wk.last | apply Wk.drop), ⟨hlt, hst.symm⟩, by simp only; omega⟩
      · obtain rfl : i = (ordM c).length := by omega
        repeat' (first
      | (apply GC_seqK; intro K hK)
      | (apply hK; clear hK K)
      | (clear hK K; apply hK; clear hK K)
      | (apply GC_region)
      | (apply GL_nil)
      | (apply thenG_normal)
      | (apply thenG_exit)
      | (apply blockG_hit)
      | (apply GC_ret)
      | (apply GC_exit)
      | (apply GC_if_false; eq_refl)
      | (apply retG1; eq_refl)
      | (apply GL_on; eq_refl; eq_refl)
      | (apply G_pv; eq_refl; first | exact trivial | omega)
      | (apply G_ld; eq_refl; (repeat first | exact In.here | apply In.there | apply In.skip); eq_refl)
      | (apply G_cmpF; eq_refl; eq_refl; omega))
        subst hv3 hv2 hv
        refine ⟨[_], (by repeat first | exact Wk.nil | exact Wk.refl | (apply Wk.cons; (focus ((repeat first | exact Rem.here | apply Rem.there | apply Rem.skip); done))) | apply Wk.nilv | apply Wk.last | apply Wk.drop), _, _, by rw [valM_len], rfl⟩
theorem next_cv {w : World} {c : Circ} {h js : Hd} {p : Nat} {A B : Option Addr} {k k1 : Nat} {v : List Bool} (hP : Blk w p 163 (rcells c h B k1)) (H : CirAt w c h js) (hA : RowA w booc 1 A v) (hn : c.latches.length ≤ 16384) (hl : ∀ x ∈ c.latches, hasL v x.2.1) :
    CVN Try.prog 110 [pt p, .slice A v.length k] w fun r N => ∃ A' k', r = .slice A' (nxtM c v).length k' ∧ N = [.vec booc 1 4 A' k' (nxtM c v)] := by
  have hLat := H.latches
  refine CVN.enter 35 [4] Try.func110 rfl rfl rfl (by decide) rfl ?_
  repeat' (first
      | (apply GC_seqK; intro K hK)
      | (apply hK; clear hK K)
      | (apply GC_block)
      | (apply GC_region)
      | (apply GL_nil)
      | (apply thenG_normal)
      | (apply GL_on; eq_refl; eq_refl)
      | (apply G_pv; eq_refl; first | exact trivial | omega)
      | (apply G_field; eq_refl)
      | (apply G_ldO; eq_refl; (repeat first | exact In.here | apply In.there | apply In.skip); assumption; eq_refl)
      | (apply G_len; eq_refl)
      | (apply G_make booc; eq_refl; eq_refl; eq_refl; omega; decide; intro _))
  rename_i b1
  refine GC_loopK [1, 5, 19, 20] (fun s : Nat × List Bool => [(21, nu s.1)]) (fun s => [.vec booc 1 4 (some ⟨b1, 0, none⟩) c.latches.length s.2, .old w none_]) (fun s => s.1 ≤ c.latches.length ∧ s.2 = fillL (fun x => lv v x.2.1) c.latches false s.1) (fun s => c.latches.length - s.1) (0, List.replicate c.latches.length false) (by repeat first | exact Pick.nil | (apply Pick.cons; eq_refl)) (by repeat first | exact trivial | refine ⟨rfl, ?_⟩) (by repeat first | exact Wk.nil | exact Wk.refl | (apply Wk.cons; (focus ((repeat first | exact Rem.here | apply Rem.there | apply Rem.skip); done))) | apply Wk.nilv | apply Wk.last | apply Wk.drop) ⟨Nat.zero_le _, fillL_0.symm⟩ ?_
  rintro ⟨i, out⟩ ⟨hi, hout⟩
  dsimp only at hi hout ⊢
  have hlen : out.length = c.latches.length := by rw [hout, fillL_len hi]
  rcases Nat.lt_or_ge i c.latches.length with hlt | hge
  · have hL := hl _ (gt_mem (l := c.latches) (i := (i : Int)) (by omega) (by omega))
    have hst := fillL_set (f := fun x : Tri => lv v x.2.1) (z := false) hlt
    rw [← hout] at hst
    have hlit : ∀ Γ, In Γ (.old w none_) → ∀ w', Mem w' Γ → CVN Try.prog 145 [.slice A v.length k, nu (gt c.latches (i : Int)).2.1] w' _ := fun Γ h0 w' M => is_cv (hA.chg (h0.old M)) rfl hL
    repeat' (first
      | (apply G_call; eq_refl; eq_refl; (apply hlit; (repeat first | exact In.here | apply In.there | apply In.skip)); rintro _ _ ⟨rfl, rfl⟩)
      | (apply GC_seqK; intro K hK)
      | (apply hK; clear hK K)
      | (apply GC_block)
      | (apply GC_region)
      | (apply GL_nil)
      | (apply thenG_normal)
      | (apply blockG_normal)
      | (apply GC_skip)
      | (apply GC_if_true; eq_refl)
      | (apply GL_on; eq_refl; eq_refl)
      | (apply G_pv; eq_refl; first | exact trivial | omega)
      | (apply G_field; eq_refl)
      | (apply G_ld; eq_refl; (repeat first | exact In.here | apply In.there | apply In.skip); eq_refl)
      | (apply G_rdW; eq_refl; (first | (apply Rd.own; (repeat first | exact In.here | apply In.there | apply In.skip); infer_instance) | (apply Rd.old; (repeat first | exact In.here | apply In.there | apply In.skip); assumption) | (apply Rd.oldR; (repeat first | exact In.here | apply In.there | apply In.skip); assumption) | exact Rd.nil | assumption); infer_instance; (case ih => infer_instance); omega; omega)
      | (apply G_cmpT; eq_refl; eq_refl; omega)
      | (apply G_ix; eq_refl; eq_refl; (first | (apply Rd.own; (repeat first | exact In.here | apply In.there | apply In.skip); infer_instance) | (apply Rd.old; (repeat first | exact In.here | apply In.there | apply In.skip); assumption) | (apply Rd.oldR; (repeat first | exact In.here | apply In.there | apply In.skip); assumption) | exact Rd.nil | assumption); (first | eq_refl | omega); omega; omega)
      | (apply G_alloc; eq_refl; intro _)
      | (apply G_stV; (first | exact wr_p | kernel_rfl); eq_refl; eq_refl; eq_refl; eq_refl; (repeat first | exact Upd.here | apply Upd.there | apply Upd.skip); infer_instance; infer_instance; eq_refl; omega; (try simp only [List.length_set, List.length_append, List.length_replicate]); omega)
      | (apply G_stW; (first | exact wr_p | kernel_rfl); eq_refl; eq_refl; eq_refl; eq_refl; (repeat first | exact Upd.here | apply Upd.there | apply Upd.skip); eq_refl))
    exact ⟨(i + 1, _), (by repeat first | exact trivial | refine ⟨rfl, ?_⟩), (by repeat first | exact Wk.nil | exact Wk.refl | (apply Wk.cons; (focus ((repeat first | exact Rem.here | apply Rem.there | apply Rem.skip); done))) | apply Wk.nilv | apply Wk.last | apply Wk.drop), ⟨hlt, hst⟩, by simp only; omega⟩
  · rw [fillL_all hge] at hout
    repeat' (first
      | (apply GC_seqK; intro K hK)
      | (apply hK; clear hK K)
      | (clear hK K; apply hK; clear hK K)
      | (apply GC_region)
      | (apply GL_nil)
      | (apply thenG_normal)
      | (apply thenG_exit)
      | (apply blockG_hit)
      | (apply GC_ret)
      | (apply GC_exit)
      | (apply GC_if_false; eq_refl)
      | (apply retG1; eq_refl)
      | (apply GL_on; eq_refl; eq_refl)
      | (apply G_pv; eq_refl; first | exact trivial | omega)
      | (apply G_cmpF; eq_refl; eq_refl; omega))
    have e1 : c.latches.length = (nxtM c v).length := by unfold nxtM; simp
    refine ⟨[.vec booc 1 4 (some ⟨b1, 0, none⟩) c.latches.length out], (by repeat first | exact Wk.nil | exact Wk.refl | (apply Wk.cons; (focus ((repeat first | exact Rem.here | apply Rem.there | apply Rem.skip); done))) | apply Wk.nilv | apply Wk.last | apply Wk.drop), some ⟨b1, 0, none⟩, c.latches.length, by rw [e1], by rw [hout]; rfl⟩
/-! ### slices.ContainsFunc at numbers -/
theorem indexFunc_cv {w : World} {f : FuncId} [F : Fn Try.prog f] {cap : Array Value} {p : Int → Bool} {A : Option Addr} {k : Nat} {ls : List Int} (hA : RowA w icell 1 A ls) (hn : ls.length ≤ 9223372036854775807) (hf : ∀ x ∈ ls, ∀ w', Chg w w' none_ → CVN Try.prog f ([nu x] ++ cap.toList) w' fun v N => N = [] ∧ v = .bool (p x)) :
    CVN Try.prog 160 [.slice A ls.length k, .func (.func f) #[] cap] w fun v N => N = [] ∧ ∃ i : Int, v = nu i ∧ decide (0 ≤ i) = ls.any p := by
  refine CVN.enter 19 [4] Try.func160 rfl rfl rfl (by decide) rfl ?_
  repeat' (first
      | (apply GC_seqK; intro K hK)
      | (apply hK; clear hK K)
      | (apply GC_block)
      | (apply GC_region)
      | (apply GL_nil)
      | (apply thenG_normal)
      | (apply GL_on; eq_refl; eq_refl)
      | (apply G_pv; eq_refl; first | exact trivial | omega)
      | (apply G_len; eq_refl))
  refine GC_loopK [0, 1, 7] (fun i : Nat => [(8, nu i)]) (fun _ => [.old w none_]) (fun i => i ≤ ls.length ∧ (ls.take i).any p = false) (fun i => ls.length - i) 0 (by repeat first | exact Pick.nil | (apply Pick.cons; eq_refl)) (by repeat first | exact trivial | refine ⟨rfl, ?_⟩) (by repeat first | exact Wk.nil | exact Wk.refl | (apply Wk.cons; (focus ((repeat first | exact Rem.here | apply Rem.there | apply Rem.skip); done))) | apply Wk.nilv | apply Wk.last | apply Wk.drop) ⟨Nat.zero_le _, by simp⟩ ?_
  rintro i ⟨hi, hall⟩
  rcases Nat.lt_or_ge i ls.length with hlt | hge
  · have e1 := List.take_succ_eq_append_getElem hlt
    have eg := gt_nat hlt
    have hcl : ∀ Γ, In Γ (.old w none_) → ∀ w', Mem w' Γ → CVN Try.prog f ([nu (gt ls (i : Int))] ++ cap.toList) w' _ := fun Γ h0 w' M => hf _ (by rw [eg]; exact List.getElem_mem hlt) w' (h0.old M)
    rw [← eg] at e1
    cases hv : p (gt ls (i : Int))
    all_goals
      rw [hv] at hcl
      repeat' (first
      | (apply G_callF; eq_refl; eq_refl; infer_instance; eq_refl; (apply hcl; (repeat first | exact In.here | apply In.there | apply In.skip)); rintro _ _ ⟨rfl, rfl⟩)
      | (apply GC_seqK; intro K hK)
      | (apply hK; clear hK K)
      | (apply GC_block)
      | (apply GC_region)
      | (apply GL_nil)
      | (apply thenG_normal)
      | (apply thenG_ret)
      | (apply blockG_ret)
      | (apply blockG_normal)
      | (apply GC_ret)
      | (apply GC_skip)
      | (apply GC_if_true; eq_refl)
      | (apply GC_if_false; eq_refl)
      | (apply retG1; eq_refl)
      | (apply GL_on; eq_refl; eq_refl)
      | (apply G_pv; eq_refl; first | exact trivial | omega)
      | (apply G_rd; eq_refl; (first | (apply Rd.own; (repeat first | exact In.here | apply In.there | apply In.skip); infer_instance) | (apply Rd.old; (repeat first | exact In.here | apply In.there | apply In.skip); assumption) | (apply Rd.oldR; (repeat first | exact In.here | apply In.there | apply In.skip); assumption) | exact Rd.nil | assumption); (case ih => infer_instance); omega; omega; eq_refl)
      | (apply G_cmpT; eq_refl; eq_refl; omega)
      | (apply G_ix; eq_refl; eq_refl; (first | (apply Rd.own; (repeat first | exact In.here | apply In.there | apply In.skip); infer_instance) | (apply Rd.old; (repeat first | exact In.here | apply In.there | apply In.skip); assumption) | (apply Rd.oldR; (repeat first | exact In.here | apply In.there | apply In.skip); assumption) | exact Rd.nil | assumption); (first | eq_refl | omega); omega; omega))
    · exact ⟨i + 1, (by repeat first | exact trivial | refine ⟨rfl, ?_⟩), (by repeat first | exact Wk.nil | exact Wk.refl | (apply Wk.cons; (focus ((repeat first | exact Rem.here | apply Rem.there | apply Rem.skip); done))) | apply Wk.nilv | apply Wk.last | apply Wk.drop), ⟨hlt, by rw [e1, List.any_append, hall]; simp [hv]⟩, by omega⟩
    · refine ⟨[], (by repeat first | exact Wk.nil | exact Wk.refl | (apply Wk.cons; (focus ((repeat first | exact Rem.here | apply Rem.there | apply Rem.skip); done))) | apply Wk.nilv | apply Wk.last | apply Wk.drop), rfl, _, rfl, ?_⟩
      have : ls.any p = true := List.any_eq_true.2 ⟨_, List.getElem_mem hlt, by rw [← eg, hv]⟩
      rw [this]
      simp
  · repeat' (first
      | (apply GC_seqK; intro K hK)
      | (apply hK; clear hK K)
      | (clear hK K; apply hK; clear hK K)
      | (apply GC_region)
      | (apply GL_nil)
      | (apply thenG_normal)
      | (apply thenG_exit)
      | (apply blockG_hit)
      | (apply GC_ret)
      | (apply GC_exit)
      | (apply GC_if_false; eq_refl)
      | (apply retG1; eq_refl)
      | (apply GL_on; eq_refl; eq_refl)
      | (apply G_pv; eq_refl; first | exact trivial | omega)
      | (apply G_cmpF; eq_refl; eq_refl; omega))
    rw [List.take_of_length_le hge] at hall
    exact ⟨[], (by repeat first | exact Wk.nil | exact Wk.refl | (apply Wk.cons; (focus ((repeat first | exact Rem.here | apply Rem.there | apply Rem.skip); done))) | apply Wk.nilv | apply Wk.last | apply Wk.drop), rfl, _, rfl, by rw [hall]; rfl⟩
theorem containsFunc_cv {w : World} {f : FuncId} [F : Fn Try.prog f] {cap : Array Value} {p : Int → Bool} {A : Option Addr} {k : Nat} {ls : List Int} (hA : RowA w icell 1 A ls) (hn : ls.length ≤ 9223372036854775807) (hf : ∀ x ∈ ls, ∀ w', Chg w w' none_ → CVN Try.prog f ([nu x] ++ cap.toList) w' fun v N => N = [] ∧ v = .bool (p x)) :
    CVN Try.prog 149 [.slice A ls.length k, .func (.func f) #[] cap] w fun v N => N = [] ∧ v = .bool (ls.any p) := by
  have hix : ∀ Γ, In Γ (.old w none_) → ∀ w', Mem w' Γ → CVN Try.prog 160 [.slice A ls.length k, .func (.func f) #[] cap] w' _ := fun Γ h0 w' M => indexFunc_cv (p := p) (hA.chg (h0.old M)) hn fun x hx w2 hc => hf x hx w2 ((h0.old M).trans hc fun _ _ h => h)
  refine CVN.enter 9 [4] Try.func149 rfl rfl rfl (by decide) rfl ?_
  repeat' (first
      | (apply G_call; eq_refl; eq_refl; (apply hix; (repeat first | exact In.here | apply In.there | apply In.skip)); rintro _ _ ⟨rfl, i, rfl, hi⟩)
      | (apply GC_seqK; intro K hK)
      | (apply hK; clear hK K)
      | (apply GC_region)
      | (apply GL_nil)
      | (apply thenG_normal)
      | (apply GC_ret)
      | (apply retG1; eq_refl)
      | (apply GL_on; eq_refl; eq_refl)
      | (apply G_pv; eq_refl; first | exact trivial | omega)
      | (apply G_cmpD; eq_refl; eq_refl; (case hd => infer_instance)))
  exact ⟨[], (by repeat first | exact Wk.nil | exact Wk.refl | (apply Wk.cons; (focus ((repeat first | exact Rem.here | apply Rem.there | apply Rem.skip); done))) | apply Wk.nilv | apply Wk.last | apply Wk.drop), rfl, by rw [← hi]⟩
theorem notIs_cv {w : World} {A : Option Addr} {b c k : Nat} {v : List Bool} {l : Int} (hB : Blk w b 62 [.slice A k c]) (hA : RowA w booc 1 A v) (hk : k = v.length) (hl : hasL v l) : CVN Try.prog 150 [nu l, pt b] w fun r N => N = [] ∧ r = .bool (!lv v l) := by
  have his : ∀ Γ, In Γ (.old w none_) → ∀ w', Mem w' Γ → CVN Try.prog 145 [.slice A k c, nu l] w' _ := fun Γ h0 w' M => is_cv (hA.chg (h0.old M)) hk hl
  refine CVN.enter 8 [3] Try.func150 rfl rfl rfl (by decide) rfl ?_
  repeat' (first
      | (apply G_call; eq_refl; eq_refl; (apply his; (repeat first | exact In.here | apply In.there | apply In.skip)); rintro _ _ ⟨rfl, rfl⟩)
      | (apply GC_seqK; intro K hK)
      | (apply hK; clear hK K)
      | (apply GC_region)
      | (apply GL_nil)
      | (apply thenG_normal)
      | (apply GC_ret)
      | (apply retG1; eq_refl)
      | (apply GL_on; eq_refl; eq_refl)
      | (apply G_pv; eq_refl; first | exact trivial | omega)
      | (apply G_ldO; eq_refl; (repeat first | exact In.here | apply In.there | apply In.skip); assumption; eq_refl))
  exact ⟨[], (by repeat first | exact Wk.nil | exact Wk.refl | (apply Wk.cons; (focus ((repeat first | exact Rem.here | apply Rem.there | apply Rem.skip); done))) | apply Wk.nilv | apply Wk.last | apply Wk.drop), rfl, rfl⟩
theorem holds_cv {w : World} {c : Circ} {h js : Hd} {p : Nat} {A B : Option Addr} {k k1 : Nat} {v : List Bool} (hP : Blk w p 163 (rcells c h B k1)) (H : CirAt w c h js) (hA : RowA w booc 1 A v) (hn : c.constraints.length ≤ 16384) (hl : ∀ l ∈ c.constraints, hasL v l) :
    CVN Try.prog 118 [pt p, .slice A v.length k] w fun r N => N = [] ∧ r = .bool (c.constraints.all (lv v)) := by
  have hcf : ∀ Γ b, In Γ (.old w none_) → In Γ (.box b 62 [.slice A v.length k]) → ∀ w', Mem w' Γ → CVN Try.prog 149 [.slice (h 5).1 c.constraints.length (h 5).2, .func (.func 150) #[] #[pt b]] w' _ := fun Γ b h0 hb w' M => containsFunc_cv (p := fun l => !lv v l) (H.constraints.chg (h0.old M)) (by omega) fun x hx w2 hc => notIs_cv ((hb.box M).chg hc id) ((hA.chg (h0.old M)).chg hc) rfl (hl x hx)
  refine CVN.enter 13 [4] Try.func118 rfl rfl rfl (by decide) rfl ?_
  repeat' (first
      | (apply G_call; eq_refl; eq_refl; (apply hcf; (repeat first | exact In.here | apply In.there | apply In.skip); (repeat first | exact In.here | apply In.there | apply In.skip)); rintro _ _ ⟨rfl, rfl⟩)
      | (apply GC_seqK; intro K hK)
      | (apply hK; clear hK K)
      | (apply GC_region)
      | (apply GL_nil)
      | (apply thenG_normal)
      | (apply GC_ret)
      | (apply retG1; eq_refl)
      | (apply GL_on; eq_refl; eq_refl)
      | (apply G_pv; eq_refl; first | exact trivial | omega)
      | (apply G_field; eq_refl)
      | (apply G_ldO; eq_refl; (repeat first | exact In.here | apply In.there | apply In.skip); assumption; eq_refl)
      | (apply G_box; eq_refl; eq_refl; intro _)
      | (apply G_fun; eq_refl))
  refine ⟨[], (by repeat first | exact Wk.nil | exact Wk.refl | (apply Wk.cons; (focus ((repeat first | exact Rem.here | apply Rem.there | apply Rem.skip); done))) | apply Wk.nilv | apply Wk.last | apply Wk.drop), rfl, ?_⟩
  congr 1
  rw [List.not_any_eq_all_not]
  simp
end SC
end Go.Proofs.Ytkndegjodnciaaa
end
section
/- trestlebook: SameBools, SpoilBools; trestlelaw07: lent, lit. -/
set_option linter.unusedVariables false
set_option linter.unusedSimpArgs false
namespace Go.Proofs.Ytkndegjodnciaaa
namespace SC
open Go.Proofs
theorem take_succ_eq {α : Type} [Inhabited α] {a b : List α} {i : Nat} (h : a.take i = b.take i) (ha : i < a.length) (hb : i < b.length) : a.take (i + 1) = b.take (i + 1) ↔ gt a (i : Int) = gt b (i : Int) := by
  rw [List.take_succ_eq_append_getElem ha, List.take_succ_eq_append_getElem hb, h, gt_nat ha, gt_nat hb]
  simp only [List.append_cancel_left_eq, List.cons.injEq, and_true]
theorem gt_ne {α : Type} [Inhabited α] {a b : List α} {i : Nat} (h : gt a (i : Int) ≠ gt b (i : Int)) : a ≠ b := fun e => h (by rw [e])
attribute [local irreducible] WC WL WX WS WO OX Does DoesU Enters CV Pure thenQ blockQ retQ Wants retQC GC GL GS GX RdB thenG blockG retG Rd At gt CVN CVM
set_option maxRecDepth 100000
theorem sameBools_cv {w : World} {A B : Option Addr} {k1 k2 : Nat} {a b : List Bool} (hA : RowA w booc 1 A a) (hB : RowA w booc 1 B b) (na : a.length ≤ 9223372036854775807) (nb : b.length ≤ 9223372036854775807) : CVN Try.prog 46 [.slice A a.length k1, .slice B b.length k2] w fun v N => N = [] ∧ v = .bool (decide (a = b)) := by
  refine CVN.enter 26 [4] Try.func46 rfl rfl rfl (by decide) rfl ?_
  by_cases hl : a.length = b.length
  · repeat' (first
      | (apply GC_seqK; intro K hK)
      | (apply hK; clear hK K)
      | (apply GC_block)
      | (apply GC_region)
      | (apply GL_nil)
      | (apply thenG_normal)
      | (apply GC_skip)
      | (apply GC_if_false; eq_refl)
      | (apply GL_on; eq_refl; eq_refl)
      | (apply G_pv; eq_refl; first | exact trivial | omega)
      | (apply G_cmpF; eq_refl; eq_refl; omega)
      | (apply G_len; eq_refl))
    refine GC_loopK [0, 1] (fun i : Nat => [(5, nu i)]) (fun _ => [.old w none_]) (fun i => i ≤ a.length ∧ a.take i = b.take i) (fun i => a.length - i) 0 (by repeat first | exact Pick.nil | (apply Pick.cons; eq_refl)) (by repeat first | exact trivial | refine ⟨rfl, ?_⟩) (by repeat first | exact Wk.nil | exact Wk.refl | (apply Wk.cons; (focus ((repeat first | exact Rem.here | apply Rem.there | apply Rem.skip); done))) | apply Wk.nilv | apply Wk.last | apply Wk.drop) ⟨Nat.zero_le _, by simp⟩ ?_
    rintro i ⟨hi, hall⟩
    rcases Nat.lt_or_ge i a.length with hlt | hge
    · have hs := take_succ_eq hall hlt (by omega)
      have hne := gt_ne (a := a) (b := b) (i := i)
      generalize hx : gt a (i : Int) = x at *
      generalize hy : gt b (i : Int) = y at *
      cases x
      all_goals cases y
      all_goals
        repeat' (first
      | (apply G_rd; eq_refl; (apply Rd.old; (repeat first | exact In.here | apply In.there | apply In.skip); assumption); (case ih => infer_instance); omega; omega; (first | rw [hx] | rw [hy]); eq_refl)
      | (apply GC_seqK; intro K hK)
      | (apply hK; clear hK K)
      | (apply GC_block)
      | (apply GC_region)
      | (apply GL_nil)
      | (apply thenG_normal)
      | (apply thenG_ret)
      | (apply blockG_ret)
      | (apply blockG_normal)
      | (apply GC_ret)
      | (apply GC_skip)
      | (apply GC_if_true; eq_refl)
      | (apply GC_if_false; eq_refl)
      | (apply retG1; eq_refl)
      | (apply GL_on; eq_refl; eq_refl)
      | (refine GC_draws (id := 6) [.q 0, .q 1, .q 2, .q 3, .q 4, .q 5, .q 6, .q 7, .q 8] mixed (by kernel_rfl) (by kernel_rfl) ?_)
      | (apply GS_nil)
      | (apply GS_qon; eq_refl; eq_refl; eq_refl; eq_refl)
      | (apply G_pv; eq_refl; first | exact trivial | omega)
      | (apply G_cmpT; eq_refl; eq_refl; omega)
      | (apply G_len; eq_refl)
      | (apply G_ix; eq_refl; eq_refl; (first | (apply Rd.own; (repeat first | exact In.here | apply In.there | apply In.skip); infer_instance) | (apply Rd.old; (repeat first | exact In.here | apply In.there | apply In.skip); assumption) | (apply Rd.oldR; (repeat first | exact In.here | apply In.there | apply In.skip); assumption) | exact Rd.nil | assumption); (first | eq_refl | omega); omega; omega)
      | (apply G_neqB; eq_refl; eq_refl))
      all_goals first
        | exact ⟨i + 1, (by repeat first | exact trivial | refine ⟨rfl, ?_⟩), (by repeat first | exact Wk.nil | exact Wk.refl | (apply Wk.cons; (focus ((repeat first | exact Rem.here | apply Rem.there | apply Rem.skip); done))) | apply Wk.nilv | apply Wk.last | apply Wk.drop), ⟨hlt, hs.2 rfl⟩, by omega⟩
        | exact ⟨[], (by repeat first | exact Wk.nil | exact Wk.refl | (apply Wk.cons; (focus ((repeat first | exact Rem.here | apply Rem.there | apply Rem.skip); done))) | apply Wk.nilv | apply Wk.last | apply Wk.drop), rfl, by rw [decide_eq_false (hne (by decide))]⟩
    · repeat' (first
      | (apply GC_seqK; intro K hK)
      | (apply hK; clear hK K)
      | (clear hK K; apply hK; clear hK K)
      | (apply GC_region)
      | (apply GL_nil)
      | (apply thenG_normal)
      | (apply thenG_exit)
      | (apply blockG_hit)
      | (apply GC_ret)
      | (apply GC_exit)
      | (apply GC_if_false; eq_refl)
      | (apply retG1; eq_refl)
      | (apply GL_on; eq_refl; eq_refl)
      | (apply G_pv; eq_refl; first | exact trivial | omega)
      | (apply G_cmpF; eq_refl; eq_refl; omega)
      | (apply G_len; eq_refl))
      rw [List.take_of_length_le (by omega), List.take_of_length_le (by omega)] at hall
      exact ⟨[], (by repeat first | exact Wk.nil | exact Wk.refl | (apply Wk.cons; (focus ((repeat first | exact Rem.here | apply Rem.there | apply Rem.skip); done))) | apply Wk.nilv | apply Wk.last | apply Wk.drop), rfl, by rw [decide_eq_true hall]⟩
  · repeat' (first
      | (apply GC_seqK; intro K hK)
      | (apply hK; clear hK K)
      | (apply GC_region)
      | (apply GL_nil)
      | (apply thenG_normal)
      | (apply thenG_ret)
      | (apply GC_ret)
      | (apply GC_if_true; eq_refl)
      | (apply retG1; eq_refl)
      | (apply GL_on; eq_refl; eq_refl)
      | (apply G_pv; eq_refl; first | exact trivial | omega)
      | (apply G_cmpT; eq_refl; eq_refl; omega)
      | (apply G_len; eq_refl))
    exact ⟨[], (by repeat first | exact Wk.nil | exact Wk.refl | (apply Wk.cons; (focus ((repeat first | exact Rem.here | apply Rem.there | apply Rem.skip); done))) | apply Wk.nilv | apply Wk.last | apply Wk.drop), rfl, by rw [decide_eq_false fun e => hl (by rw [e])]⟩
end SC
end Go.Proofs.Ytkndegjodnciaaa
end
section
/- sim: ready, step, Values, Next, Holds, Starts. -/
set_option linter.unusedVariables false
set_option linter.unusedSimpArgs false
namespace Go.Proofs.Ytkndegjodnciaaa
namespace SC
open Go.Proofs
/-- What ready answers. -/
def ReadyR (c : Circ) (h : Hd) (v : Value) (N : Mm) : Prop :=
  ((lookM c).2 ≠ 0 ∧ v = .tuple #[.pointer none, nu (lookM c).2] ∧ N = []) ∨ ((lookM c).2 = 0 ∧ ∃ p B k, v = .tuple #[pt p, nu 0] ∧ N = [.box p 163 (rcells c h B k), .vec icell 1 3 B k (ordM c)])
def StepR (c : Circ) (h : Hd) (s r : List Bool) (v : Value) (N : Mm) : Prop :=
  (stepE c s r ≠ 0 ∧ v = .tuple #[.pointer none, .slice none 0 0, nu (stepE c s r)] ∧ N = []) ∨
  (stepE c s r = 0 ∧ ∃ p B k A k', v = .tuple #[pt p, .slice A (valM c s r).length k', nu 0] ∧ N = [.vec booc 1 4 A k' (valM c s r), .box p 163 (rcells c h B k), .vec icell 1 3 B k (ordM c)])
attribute [local irreducible] WC WL WX WS WO OX Does DoesU Enters CV Pure thenQ blockQ retQ Wants retQC GC GL GS GX RdB thenG blockG retG Rd At gt CVN CVM
set_option maxRecDepth 100000
theorem ready_cv {w : World} {c : Circ} {h js : Hd} (H : CirIn w c h js) : CVN Try.prog 107 [.agg (ccells c h).toArray] w (ReadyR c h) := by
  have hord : ∀ Γ, In Γ (.old w none_) → ∀ w', Mem w' Γ → CVN Try.prog 26 [.agg (ccells c h).toArray] w' (OrdR c) := fun Γ hi w' M => have H' := H.chg (hi.old M); OrderG H'.at_ H'.sane
  refine CVN.enter 18 [2, 3] Try.func107 rfl rfl rfl (by decide) rfl ?_
  repeat' (first
      | (apply G_call; eq_refl; eq_refl; (apply hord; (repeat first | exact In.here | apply In.there | apply In.skip)); rintro _ _ (⟨he, rfl, rfl⟩ | ⟨he, A1, k1, rfl, rfl⟩))
      | (apply GC_seqK; intro K hK)
      | (apply hK; clear hK K)
      | (apply GC_region)
      | (apply GL_nil)
      | (apply thenG_normal)
      | (apply thenG_ret)
      | (apply GC_ret)
      | (apply GC_skip)
      | (apply GC_if_true; eq_refl)
      | (apply GC_if_false; eq_refl)
      | (apply retG2; eq_refl; eq_refl)
      | (apply GL_on; eq_refl; eq_refl)
      | (apply G_pv; eq_refl; first | exact trivial | omega)
      | (apply G_ldW; eq_refl; (repeat first | exact In.here | apply In.there | apply In.skip); eq_refl)
      | (apply G_cmpT; eq_refl; eq_refl; omega)
      | (apply G_cmpF; eq_refl; eq_refl; omega)
      | (apply G_box; eq_refl; eq_refl; intro _)
      | (apply GX_pure; apply build163_0_1 <;> eq_refl))
  · exact ⟨[], (by repeat first | exact Wk.nil | exact Wk.refl | (apply Wk.cons; (focus ((repeat first | exact Rem.here | apply Rem.there | apply Rem.skip); done))) | apply Wk.nilv | apply Wk.last | apply Wk.drop), .inl ⟨he, rfl, rfl⟩⟩
  · exact ⟨[.box _ 163 (rcells c h A1 k1), _], (by repeat first | exact Wk.nil | exact Wk.refl | (apply Wk.cons; (focus ((repeat first | exact Rem.here | apply Rem.there | apply Rem.skip); done))) | apply Wk.nilv | apply Wk.last | apply Wk.drop), .inr ⟨he, _, _, _, rfl, rfl⟩⟩
section
variable {w : World} {c : Circ} {h js : Hd} {S T : Option Addr} {k2 k3 : Nat} {s r : List Bool} (H : CirIn w c h js) (hS : RowA w booc 1 S s) (hT : RowA w booc 1 T r)
include H hS hT
theorem step_cv : CVN Try.prog 113 [.agg (ccells c h).toArray, .slice S s.length k2, .slice T r.length k3] w (StepR c h s r) := by
  have hrd : ∀ Γ, In Γ (.old w none_) → ∀ w', Mem w' Γ → CVN Try.prog 107 [.agg (ccells c h).toArray] w' (ReadyR c h) := fun Γ hi w' M => ready_cv (H.chg (hi.old M))
  have hvl : (lookM c).2 = 0 → s.length = c.latches.length → r.length = c.inputs.length → ∀ Γ p B k, In Γ (.old w none_) → In Γ (.box p 163 (rcells c h B k)) → In Γ (.vec icell 1 3 B k (ordM c)) → ∀ w', Mem w' Γ → CVN Try.prog 108 [pt p, .slice S s.length k2, .slice T r.length k3] w' _ := fun he h2 h3 Γ p B k hi hb hv w' M => by
    have H' := H.chg (hi.old M)
    exact values_cv (right_of H'.at_ H'.sane he) (hb.box M) H'.at_ (hv.row M) (hS.chg (hi.old M)) (hT.chg (hi.old M)) h2 h3
  refine CVN.enter 38 [6, 7, 8] Try.func113 rfl rfl rfl (by decide) rfl ?_
  repeat' (first
      | (apply G_call; eq_refl; eq_refl; (apply hrd; (repeat first | exact In.here | apply In.there | apply In.skip)); rintro _ _ (⟨he, rfl, rfl⟩ | ⟨he, p1, A1, k1, rfl, rfl⟩))
      | (apply G_call; eq_refl; eq_refl; (apply hvl he; omega; omega; (repeat first | exact In.here | apply In.there | apply In.skip); (repeat first | exact In.here | apply In.there | apply In.skip); (repeat first | exact In.here | apply In.there | apply In.skip)); rintro _ _ ⟨A2, k4, rfl, rfl⟩)
      | (apply GC_seqK; intro K hK)
      | (apply hK; clear hK K)
      | (apply GC_region)
      | (apply GL_nil)
      | (apply thenG_normal)
      | (apply thenG_ret)
      | (apply GC_ret)
      | (apply GC_skip)
      | (apply GC_if_true; eq_refl)
      | (apply GC_if_false; eq_refl)
      | (apply retG3; eq_refl; eq_refl; eq_refl)
      | (apply GL_on; eq_refl; eq_refl)
      | (apply GL_off; eq_refl; eq_refl)
      | (apply G_pv; eq_refl; first | exact trivial | omega)
      | (apply G_field; eq_refl)
      | (apply G_ld; eq_refl; (repeat first | exact In.here | apply In.there | apply In.skip); eq_refl)
      | (apply G_ldW; eq_refl; (repeat first | exact In.here | apply In.there | apply In.skip); eq_refl)
      | (apply G_cmpT; eq_refl; eq_refl; omega)
      | (apply G_cmpF; eq_refl; eq_refl; omega)
      | (apply G_cmp; eq_refl; eq_refl; all_goals intro _)
      | (apply G_len; eq_refl)
      | (apply G_box; eq_refl; eq_refl; intro _))
  all_goals first
    | exact ⟨[], (by repeat first | exact Wk.nil | exact Wk.refl | (apply Wk.cons; (focus ((repeat first | exact Rem.here | apply Rem.there | apply Rem.skip); done))) | apply Wk.nilv | apply Wk.last | apply Wk.drop), .inl ⟨by rw [stepE_look (by omega)]; assumption, by rw [stepE_look (by omega)], rfl⟩⟩
    | exact ⟨[], (by repeat first | exact Wk.nil | exact Wk.refl | (apply Wk.cons; (focus ((repeat first | exact Rem.here | apply Rem.there | apply Rem.skip); done))) | apply Wk.nilv | apply Wk.last | apply Wk.drop), .inl ⟨by rw [stepE_len (by omega) (by omega)]; decide, by rw [stepE_len (by omega) (by omega)], rfl⟩⟩
    | exact ⟨[_, _, _], (by repeat first | exact Wk.nil | exact Wk.refl | (apply Wk.cons; (focus ((repeat first | exact Rem.here | apply Rem.there | apply Rem.skip); done))) | apply Wk.nilv | apply Wk.last | apply Wk.drop), .inr ⟨stepE_ok (by omega) (by omega) (by omega), _, _, _, _, _, rfl, rfl⟩⟩
theorem ValuesP_cv : CVN Try.prog 53 [.agg (ccells c h).toArray, .slice S s.length k2, .slice T r.length k3] w (ValsR c s r) := by
  have hst : ∀ Γ, In Γ (.old w none_) → ∀ w', Mem w' Γ → CVN Try.prog 113 [.agg (ccells c h).toArray, .slice S s.length k2, .slice T r.length k3] w' (StepR c h s r) := fun Γ hi w' M => step_cv (H.chg (hi.old M)) (hS.chg (hi.old M)) (hT.chg (hi.old M))
  refine CVN.enter 21 [6, 7] Try.func53 rfl rfl rfl (by decide) rfl ?_
  repeat' (first
      | (apply G_call; eq_refl; eq_refl; (apply hst; (repeat first | exact In.here | apply In.there | apply In.skip)); rintro _ _ (⟨he, rfl, rfl⟩ | ⟨he, p1, B1, k1, A1, k4, rfl, rfl⟩))
      | (apply GC_seqK; intro K hK)
      | (apply hK; clear hK K)
      | (apply GC_region)
      | (apply GL_nil)
      | (apply thenG_normal)
      | (apply GC_ret)
      | (apply retG2; eq_refl; eq_refl)
      | (apply GL_on; eq_refl; eq_refl)
      | (apply G_pv; eq_refl; first | exact trivial | omega)
      | (apply G_ldW; eq_refl; (repeat first | exact In.here | apply In.there | apply In.skip); eq_refl)
      | (apply G_box; eq_refl; eq_refl; intro _))
  · have e1 : valsM c s r = [] := if_neg he
    unfold ValsR
    rw [e1]
    exact ⟨[.vec booc 1 4 none 0 []], (by repeat first | exact Wk.nil | exact Wk.refl | (apply Wk.cons; (focus ((repeat first | exact Rem.here | apply Rem.there | apply Rem.skip); done))) | apply Wk.nilv | apply Wk.last | apply Wk.drop), none, 0, rfl, rfl⟩
  · have e1 : valsM c s r = valM c s r := if_pos he
    unfold ValsR
    rw [e1, he]
    exact ⟨[_], (by repeat first | exact Wk.nil | exact Wk.refl | (apply Wk.cons; (focus ((repeat first | exact Rem.here | apply Rem.there | apply Rem.skip); done))) | apply Wk.nilv | apply Wk.last | apply Wk.drop), _, _, rfl, rfl⟩
end
end SC
end Go.Proofs.Ytkndegjodnciaaa
end
section
/- What is so in a step. trestleref07: moment. -/
set_option linter.unusedVariables false
set_option linter.unusedSimpArgs false
namespace Go.Proofs.Ytkndegjodnciaaa
namespace SC
open Go.Proofs
structure Mom where
  state : List Bool
  holds : Bool
  bads : List Int
  fair : List (Int × Int)
instance : Inhabited Mom := ⟨⟨[], false, [], []⟩⟩
abbrev HMom := (Option Addr × Nat) × (Option Addr × Nat) × (Option Addr × Nat)
def encM (p : HMom × Mom) : List Value := [.slice p.1.1.1 p.2.state.length p.1.1.2, .bool p.2.holds, .slice p.1.2.1.1 p.2.bads.length p.1.2.1.2, .slice p.1.2.2.1 p.2.fair.length p.1.2.2.2]
def momE (p : HMom × Mom) : Mm := [.vec booc 1 4 p.1.1.1 p.1.1.2 p.2.state, .vec icell 1 3 p.1.2.1.1 p.1.2.1.2 p.2.bads, .vec spotc 2 138 p.1.2.2.1 p.1.2.2.2 p.2.fair]
instance : Enc encM 4 := ⟨fun _ => rfl, fun a u h => by simp [encM] at h; rcases h with rfl | rfl | rfl | rfl <;> rfl, by decide⟩
def selI (v : List Bool) (ls : List Int) (i : Nat) : List Int := ((List.range i).filter fun (k : Nat) => lv v (gt ls (k : Int))).map fun (k : Nat) => (k : Int)
def selF (at_ : Int) (v : List Bool) (ls : List Int) (i : Nat) : List (Int × Int) := ((List.range i).filter fun (k : Nat) => lv v (gt ls (k : Int))).map fun (k : Nat) => (at_, (k : Int))
def fairJ (v : List Bool) (js : List (List Int)) (i : Nat) : List (Int × Int) := (List.range i).flatMap fun (k : Nat) => selF (k : Int) v (js.getD k []) (js.getD k []).length
def momM (c : Circ) (s v : List Bool) : Mom := ⟨s, c.constraints.all (lv v), selI v c.bads c.bads.length, fairJ v c.justice c.justice.length ++ selF (-1) v c.fairness c.fairness.length⟩
theorem selI_t {v : List Bool} {ls : List Int} {i : Nat} (h : lv v (gt ls (i : Int)) = true) : selI v ls (i + 1) = selI v ls i ++ [(i : Int)] := by unfold selI; rw [List.range_succ, List.filter_append, List.map_append]; simp [h]
theorem selI_f {v : List Bool} {ls : List Int} {i : Nat} (h : lv v (gt ls (i : Int)) = false) : selI v ls (i + 1) = selI v ls i := by unfold selI; rw [List.range_succ, List.filter_append, List.map_append]; simp [h]
theorem selF_t {a : Int} {v : List Bool} {ls : List Int} {i : Nat} (h : lv v (gt ls (i : Int)) = true) : selF a v ls (i + 1) = selF a v ls i ++ [(a, (i : Int))] := by unfold selF; rw [List.range_succ, List.filter_append, List.map_append]; simp [h]
theorem selF_f {a : Int} {v : List Bool} {ls : List Int} {i : Nat} (h : lv v (gt ls (i : Int)) = false) : selF a v ls (i + 1) = selF a v ls i := by unfold selF; rw [List.range_succ, List.filter_append, List.map_append]; simp [h]
theorem selI_len (v : List Bool) (ls : List Int) (i : Nat) : (selI v ls i).length ≤ i := by unfold selI; rw [List.length_map]; exact Nat.le_trans (List.length_filter_le ..) (by simp)
theorem selF_len (a : Int) (v : List Bool) (ls : List Int) (i : Nat) : (selF a v ls i).length ≤ i := by unfold selF; rw [List.length_map]; exact Nat.le_trans (List.length_filter_le ..) (by simp)
theorem fairJ_succ (v : List Bool) (js : List (List Int)) (i : Nat) : fairJ v js (i + 1) = fairJ v js i ++ selF (i : Int) v (js.getD i []) (js.getD i []).length := by unfold fairJ; rw [List.range_succ, List.flatMap_append]; simp
theorem sumL_take_le (l : List (List Int)) (i : Nat) : sumL (l.take i) ≤ sumL l := by
  unfold sumL
  induction l generalizing i with
  | nil => simp
  | cons a r ih =>
    cases i with
    | zero => simp
    | succ i => simp only [List.take_succ_cons, List.map_cons, List.sum_cons]; have := ih i; omega
theorem fairJ_len (v : List Bool) (js : List (List Int)) (i : Nat) (h : i ≤ js.length) : (fairJ v js i).length ≤ sumL (js.take i) := by
  induction i with
  | zero => simp [fairJ]
  | succ i ih =>
    have h1 := ih (by omega)
    have h2 := selF_len (i : Int) v (js.getD i []) (js.getD i []).length
    rw [fairJ_succ, List.length_append, List.take_succ_eq_append_getElem (by omega)]
    unfold sumL at *
    rw [List.map_append, List.sum_append]
    have e1 : js.getD i [] = js[i] := by simp [show i < js.length by omega]
    rw [e1] at h2 ⊢
    simp only [List.map_cons, List.map_nil, List.sum_cons, List.sum_nil]
    omega
theorem Right.sumJ {c : Circ} (R : Right c) (hf : c.Fits) : sumL c.justice ≤ 16384 := by
  have h1 := sumL_le (l := c.justice) (M := 17592186044416) fun x hx => by have := hf.each x hx; omega
  have h2 := R.nJust
  have h3 := R.sum
  unfold sumW at h3
  have h4 : c.justice.length * 17592186044416 ≤ 16384 * 17592186044416 := Nat.mul_le_mul_right _ h2
  rw [wrap64_id (by omega) (by omega)] at h3
  omega
theorem each_sum {l : List (List Int)} {i : Nat} (h : i < l.length) : sumL (l.take i) + l[i].length ≤ sumL l := by
  have := sumL_take_le l (i + 1)
  rw [List.take_succ_eq_append_getElem h] at this
  unfold sumL at *
  rw [List.map_append, List.sum_append] at this
  simpa using this
/-- What moment answers: a struct, its three lists new memory. -/
def MomR (m : Mom) (v : Value) (N : Mm) : Prop := ∃ hm : HMom, v = .agg (encM (hm, m)).toArray ∧ N = momE (hm, m)
attribute [local irreducible] WC WL WX WS WO OX Does DoesU Enters CV Pure thenQ blockQ retQ Wants retQC GC GL GS GX RdB thenG blockG retG Rd At gt CVN CVM
set_option maxRecDepth 100000
end SC
end Go.Proofs.Ytkndegjodnciaaa
end
section
/- sim: moment. -/
set_option linter.unusedVariables false
set_option linter.unusedSimpArgs false
namespace Go.Proofs.Ytkndegjodnciaaa
namespace SC
open Go.Proofs
attribute [local irreducible] WC WL WX WS WO OX Does DoesU Enters CV Pure thenQ blockQ retQ Wants retQC GC GL GS GX RdB thenG blockG retG Rd At gt CVN CVM
set_option maxRecDepth 100000
/-- The closure that tells the fair spots. -/
def fairC (b : Nat) (x0 x1 x2 : Value) (A : Option Addr) (k : Nat) (F : List (Int × Int)) : Mm := [.box b 82 [x0, x1, x2, .slice A F.length k], .vec spotc 2 138 A k F]
theorem fair_cv {w : World} {b5 b7 k c kF kL : Nat} {x0 x1 x2 : Value} {A AF L : Option Addr} {v : List Bool} {F : List (Int × Int)} {ls : List Int} {at_ : Int} (M : Mem w (fairC b7 x0 x1 x2 AF kF F)) (hB : RdB [.old w (owns (fairC b7 x0 x1 x2 AF kF F))] b5 62 [.slice A k c]) (hA : Rd [.old w (owns (fairC b7 x0 x1 x2 AF kF F))] booc 1 A v) (hL : Rd [.old w (owns (fairC b7 x0 x1 x2 AF kF F))] icell 1 L ls)
    (hk : k = v.length) (hin : ∀ l ∈ ls, hasL v l) (hn : F.length + ls.length ≤ 100000) : CVM Try.prog 146 ([nu at_, .slice L ls.length kL] ++ (#[pt b5, pt b7] : Array Value).toList) w (fairC b7 x0 x1 x2 AF kF F) fun r N => r = .tuple #[] ∧ ∃ A' k', N = fairC b7 x0 x1 x2 A' k' (F ++ selF at_ v ls ls.length) := by
  obtain ⟨S, hS⟩ : ∃ S, S = owns (fairC b7 x0 x1 x2 AF kF F) := ⟨_, rfl⟩
  rw [← hS] at hB hA hL
  have his : ∀ Γ, In Γ (.old w S) → ∀ l, hasL v l → ∀ w', Mem w' Γ → CVN Try.prog 145 [.slice A k c, nu l] w' _ := fun Γ hi l hl w' M => is_cv (hA.at (hi.one M)) hk hl
  refine CVM.enter 27 [] Try.func146 rfl rfl rfl (by decide) rfl M ?_
  rw [← hS]
  clear hS M
  unfold fairC
  repeat' (first
      | (apply GC_seqK; intro K hK)
      | (apply hK; clear hK K)
      | (apply GC_block)
      | (apply GC_region)
      | (apply GL_nil)
      | (apply thenG_normal)
      | (apply GL_on; eq_refl; eq_refl)
      | (apply G_pv; eq_refl; first | exact trivial | omega)
      | (apply G_len; eq_refl))
  refine GC_loopK [0, 2, 3, 8, 9] (fun t : Nat × List (Int × Int) × Option Addr × Nat => [(10, nu t.1)]) (fun t => [.box b7 82 [x0, x1, x2, .slice t.2.2.1 t.2.1.length t.2.2.2], .vec spotc 2 138 t.2.2.1 t.2.2.2 t.2.1, .old w S])
    (fun t => t.1 ≤ ls.length ∧ t.2.1 = F ++ selF at_ v ls t.1) (fun t => ls.length - t.1) (0, F, AF, kF) (by repeat first | exact Pick.nil | (apply Pick.cons; eq_refl)) (by repeat first | exact trivial | refine ⟨rfl, ?_⟩) (by repeat first | exact Wk.nil | exact Wk.refl | (apply Wk.cons; (focus ((repeat first | exact Rem.here | apply Rem.there | apply Rem.skip); done))) | apply Wk.nilv | apply Wk.last | apply Wk.drop) ⟨Nat.zero_le _, by simp [selF]⟩ ?_
  rintro ⟨j, F2, AF2, kF2⟩ ⟨hj, hF2⟩
  dsimp only at hj hF2 ⊢
  have hFl2 : F2.length ≤ F.length + j := by rw [hF2, List.length_append]; have := selF_len at_ v ls j; omega
  rcases Nat.lt_or_ge j ls.length with hlt2 | hge2
  · have hl := hin _ (gt_mem (l := ls) (i := (j : Int)) (by omega) (by omega))
    repeat' (first
      | (apply G_call; eq_refl; eq_refl; (apply his; (repeat first | exact In.here | apply In.there | apply In.skip); assumption); rintro _ _ ⟨rfl, rfl⟩)
      | (apply GC_seqK; intro K hK)
      | (apply hK; clear hK K)
      | (apply GC_block)
      | (apply GC_region)
      | (apply GL_nil)
      | (apply thenG_normal)
      | (apply blockG_normal)
      | (apply GC_skip)
      | (apply GC_if_true; eq_refl)
      | (apply GC_if; eq_refl; all_goals intro _)
      | (apply GL_on; eq_refl; eq_refl)
      | (apply G_pv; eq_refl; first | exact trivial | omega)
      | (apply G_field; eq_refl)
      | (apply G_ld; eq_refl; (repeat first | exact In.here | apply In.there | apply In.skip); eq_refl)
      | (apply G_ldR; eq_refl; (apply RdB.oldR; (repeat first | exact In.here | apply In.there | apply In.skip); assumption); eq_refl)
      | (apply G_rd; eq_refl; (first | (apply Rd.own; (repeat first | exact In.here | apply In.there | apply In.skip); infer_instance) | (apply Rd.old; (repeat first | exact In.here | apply In.there | apply In.skip); assumption) | (apply Rd.oldR; (repeat first | exact In.here | apply In.there | apply In.skip); assumption) | exact Rd.nil | assumption); (case ih => infer_instance); omega; omega; eq_refl)
      | (apply G_cmpT; eq_refl; eq_refl; omega)
      | (apply G_ix; eq_refl; eq_refl; (first | (apply Rd.own; (repeat first | exact In.here | apply In.there | apply In.skip); infer_instance) | (apply Rd.old; (repeat first | exact In.here | apply In.there | apply In.skip); assumption) | (apply Rd.oldR; (repeat first | exact In.here | apply In.there | apply In.skip); assumption) | exact Rd.nil | assumption); (first | eq_refl | omega); omega; omega)
      | (apply G_st; (first | exact wr_p | kernel_rfl); eq_refl; eq_refl; eq_refl; eq_refl; (repeat first | exact Upd.here | apply Upd.there | apply Upd.skip); (first | decide | exact Nat.le_of_ble_eq_true rfl))
      | (apply G_app; (first | exact wr_p | kernel_rfl); eq_refl; eq_refl; (intro A c; (repeat first | exact Upd.here | apply Upd.there | apply Upd.skip)); infer_instance; (repeat first | exact In.here | apply In.there | apply In.skip); (repeat first | exact Dec.nil | apply Dec.pr | apply Dec.tr | (apply Dec.c1; eq_refl) | (apply Dec.c2; eq_refl) | (apply Dec.c3; eq_refl)); eq_refl; eq_refl; eq_refl; ((try simp only [List.length_append, List.length_cons, List.length_nil]); omega); decide; intro _ _)
      | (apply GX_pure; apply build138_0_1 <;> eq_refl)
      | (apply G_new (fun b => .slice (some ⟨b, 0, none⟩) 1 1); eq_refl; (intro _; apply buildS80_1 <;> eq_refl); intro _))
    · exact ⟨(j + 1, _, _, _), (by repeat first | exact trivial | refine ⟨rfl, ?_⟩), (by repeat first | exact Wk.nil | exact Wk.refl | (apply Wk.cons; (focus ((repeat first | exact Rem.here | apply Rem.there | apply Rem.skip); done))) | apply Wk.nilv | apply Wk.last | apply Wk.drop), ⟨hlt2, by rw [selF_t (by assumption), hF2, List.append_assoc]⟩, by simp only; omega⟩
    · exact ⟨(j + 1, _, _, _), (by repeat first | exact trivial | refine ⟨rfl, ?_⟩), (by repeat first | exact Wk.nil | exact Wk.refl | (apply Wk.cons; (focus ((repeat first | exact Rem.here | apply Rem.there | apply Rem.skip); done))) | apply Wk.nilv | apply Wk.last | apply Wk.drop), ⟨hlt2, by rw [selF_f (by assumption), hF2]⟩, by simp only; omega⟩
  · obtain rfl : j = ls.length := by omega
    repeat' (first
      | (apply GC_seqK; intro K hK)
      | (apply hK; clear hK K)
      | (apply GC_region)
      | (apply GL_nil)
      | (apply thenG_normal)
      | (apply thenG_exit)
      | (apply blockG_hit)
      | (apply GC_exit)
      | (apply GC_if_false; eq_refl)
      | (apply retG0n)
      | (apply GL_on; eq_refl; eq_refl)
      | (apply G_cmpF; eq_refl; eq_refl; omega))
    subst hF2
    exact ⟨_, (by repeat first | exact Wk.nil | exact Wk.refl | (apply Wk.cons; (focus ((repeat first | exact Rem.here | apply Rem.there | apply Rem.skip); done))) | apply Wk.nilv | apply Wk.last | apply Wk.drop), rfl, AF2, kF2, rfl⟩
theorem clone144_cv {w : World} {A : Option Addr} {k : Nat} {l : List Bool} (hA : RowA w booc 1 A l) (hn : l.length ≤ 140737488355000) : CVN Try.prog 144 [.slice A l.length k] w fun v N => ∃ A' k', v = .slice A' l.length k' ∧ N = [.vec booc 1 4 A' k' l] := by
  refine CVN.enter 8 [2] Try.func144 rfl rfl rfl (by decide) rfl ?_
  cases A with
  | none =>
    obtain rfl : l = [] := List.length_eq_zero_iff.1 hA.nil_of
    repeat' (first
      | (apply GC_seqK; intro K hK)
      | (apply hK; clear hK K)
      | (apply GC_region)
      | (apply GL_nil)
      | (apply thenG_normal)
      | (apply thenG_ret)
      | (apply GC_ret)
      | (apply GC_if_true; eq_refl)
      | (apply retG1; eq_refl)
      | (apply GL_on; eq_refl; eq_refl)
      | (apply G_pv; eq_refl; first | exact trivial | omega)
      | (apply G_eqL; eq_refl; eq_refl))
    exact ⟨[.vec booc 1 4 none 0 []], (by repeat first | exact Wk.nil | exact Wk.refl | (apply Wk.cons; (focus ((repeat first | exact Rem.here | apply Rem.there | apply Rem.skip); done))) | apply Wk.nilv | apply Wk.last | apply Wk.drop), none, 0, rfl, rfl⟩
  | some p =>
    have hk : some p = none → k = 0 := fun h => by cases h
    repeat' (first
      | (apply GC_seqK; intro K hK)
      | (apply hK; clear hK K)
      | (apply GC_region)
      | (apply GL_nil)
      | (apply thenG_normal)
      | (apply GC_ret)
      | (apply GC_skip)
      | (apply GC_if_false; eq_refl)
      | (apply retG1; eq_refl)
      | (apply GL_on; eq_refl; eq_refl)
      | (apply G_pv; eq_refl; first | exact trivial | omega)
      | (apply G_eqL; eq_refl; eq_refl)
      | (apply G_appBR; (first | exact wr_p | kernel_rfl); eq_refl; eq_refl; (first | (apply Rd.own; (repeat first | exact In.here | apply In.there | apply In.skip); infer_instance) | (apply Rd.old; (repeat first | exact In.here | apply In.there | apply In.skip); assumption) | (apply Rd.oldR; (repeat first | exact In.here | apply In.there | apply In.skip); assumption) | exact Rd.nil | assumption); infer_instance; (repeat first | exact Upd.here | apply Upd.there | apply Upd.skip); (repeat first | exact Dec.nil | apply Dec.pr | apply Dec.tr | (apply Dec.c1; eq_refl) | (apply Dec.c2; eq_refl) | (apply Dec.c3; eq_refl)); (intro A c; (repeat first | exact Upd.here | apply Upd.there | apply Upd.skip)); (intro _; trivial); (first | (apply Rd.own; (repeat first | exact In.here | apply In.there | apply In.skip); infer_instance) | (apply Rd.old; (repeat first | exact In.here | apply In.there | apply In.skip); assumption) | (apply Rd.oldR; (repeat first | exact In.here | apply In.there | apply In.skip); assumption) | exact Rd.nil | assumption); assumption; eq_refl; eq_refl; decide; eq_refl; eq_refl; (try simp only [List.length_nil]); omega; decide; intro _ _)
      | (apply G_new (fun b => .slice (some ⟨b, 0, none⟩) 0 0); eq_refl; (intro _; apply buildS62_0); intro _))
    exact ⟨[_], (by repeat first | exact Wk.nil | exact Wk.refl | (apply Wk.cons; (focus ((repeat first | exact Rem.here | apply Rem.there | apply Rem.skip); done))) | apply Wk.nilv | apply Wk.last | apply Wk.drop), _, _, rfl, rfl⟩
theorem moment_cv {w : World} {c : Circ} {h js : Hd} {p : Nat} {B S A : Option Addr} {k k1 k2 : Nat} {s v : List Bool} (R : Right c) (hP : Blk w p 163 (rcells c h B k1)) (H : CirAt w c h js) (hf : c.Fits) (hS : RowA w booc 1 S s) (hn : s.length ≤ 16384) (hA : RowA w booc 1 A v) (hv : v.length = (c.max + 1).toNat) :
    CVN Try.prog 109 [pt p, .slice S s.length k, .slice A v.length k2] w (MomR (momM c s v)) := by
  have m1 := R.m1
  have n1 := R.nBad
  have n2 := R.nFair
  have n3 := R.nJust
  have n5 := R.sumJ hf
  have hBad := H.bads
  have hFair := H.fairness
  have hJ := H.jrow
  have hjl := jps_len c js
  have hall : ∀ Γ, In Γ (.old w none_) → ∀ w', Mem w' Γ → CVN Try.prog 118 [pt p, .slice A v.length k2] w' _ := fun Γ hi w' M => holds_cv (hP.chg (hi.old M) id) (H.chg (hi.old M)) (hA.chg (hi.old M)) R.nCon fun l hl => (R.con hl).has m1 hv
  have hcl : ∀ Γ, In Γ (.old w none_) → ∀ w', Mem w' Γ → CVN Try.prog 144 [.slice S s.length k] w' _ := fun Γ hi w' M => clone144_cv (hS.chg (hi.old M)) (by omega)
  have hlit : ∀ Γ, In Γ (.old w none_) → ∀ l, inR c l → ∀ w', Mem w' Γ → CVN Try.prog 145 [.slice A v.length k2, nu l] w' _ := fun Γ hi l hl w' M => is_cv (hA.chg (hi.old M)) rfl (hl.has m1 hv)
  have hfr : ∀ {Γ Γ' : Mm} {b5 b7 kF kL : Nat} {x0 x1 x2 : Value} {AF L : Option Addr} {F : List (Int × Int)} {ls : List Int} {at_ : Int}, Rems Γ (fairC b7 x0 x1 x2 AF kF F) Γ' → In Γ' (.box b5 62 [.slice A v.length k2]) → In Γ' (.old w none_) → RowA w icell 1 L ls → (∀ l ∈ ls, inR c l) → F.length + ls.length ≤ 100000 → ∀ w', Mem w' Γ →
      CVM Try.prog 146 ([nu at_, .slice L ls.length kL] ++ (#[pt b5, pt b7] : Array Value).toList) w' (fairC b7 x0 x1 x2 AF kF F) _ := fun hC hb ho hL hin hl w' M => fair_cv (M.takes hC).left ((RdB.own hb).frame (M.takes hC)) ((Rd.old ho hA).frame (M.takes hC)) ((Rd.old ho hL).frame (M.takes hC)) rfl (fun l hl => (hin l hl).has m1 hv) hl
  refine CVN.enterC (t := 82) 65 6 [] Try.func109 rfl rfl rfl (.inl rfl) rfl ?_
  repeat' (first
      | (apply G_call; eq_refl; eq_refl; (apply hcl; (repeat first | exact In.here | apply In.there | apply In.skip)); rintro _ _ ⟨A0, k0, rfl, rfl⟩)
      | (apply G_call; eq_refl; eq_refl; (apply hall; (repeat first | exact In.here | apply In.there | apply In.skip)); rintro _ _ ⟨rfl, rfl⟩)
      | (apply GC_seqK; intro K hK)
      | (apply hK; clear hK K)
      | (apply GC_block)
      | (apply GC_region)
      | (apply GL_nil)
      | (apply thenG_normal)
      | (apply GL_on; eq_refl; eq_refl)
      | (refine GC_draws (id := 1) [.q 0, .q 2, .q 3, .f 6, .c 1, .c 4, .q 5, .land, .c 7] mixed (by kernel_rfl) (by kernel_rfl) ?_)
      | (apply GS_nil)
      | (apply GS_qon; eq_refl; eq_refl; eq_refl; eq_refl)
      | (apply GS_con; eq_refl; eq_refl; eq_refl; eq_refl)
      | (apply GS_fl; eq_refl; infer_instance; eq_refl; eq_refl; eq_refl)
      | (apply GS_land; simp only [landG]; intros)
      | (apply G_pv; eq_refl; first | exact trivial | omega)
      | (apply G_field; eq_refl)
      | (apply G_ld; eq_refl; (repeat first | exact In.here | apply In.there | apply In.skip); eq_refl)
      | (apply G_ldO; eq_refl; (repeat first | exact In.here | apply In.there | apply In.skip); assumption; eq_refl)
      | (apply G_len; eq_refl)
      | (apply G_alloc; eq_refl; intro _)
      | (apply G_box; eq_refl; eq_refl; intro _)
      | (apply G_stW; (first | exact wr_p | kernel_rfl); eq_refl; eq_refl; eq_refl; eq_refl; (repeat first | exact Upd.here | apply Upd.there | apply Upd.skip); eq_refl)
      | (apply GX_pure; apply build82_0_1 <;> eq_refl))
  rename_i b5 b6 b7
  refine GC_loopK [0, 5, 6, 7, 23, 24] (fun t : Nat × List Int × Option Addr × Nat => [(25, nu t.1)]) (fun t => [.box b7 82 [.slice A0 s.length k0, .bool (c.constraints.all (lv v)), .slice t.2.2.1 t.2.1.length t.2.2.2, .slice none 0 0], .vec icell 1 3 t.2.2.1 t.2.2.2 t.2.1, .vec booc 1 4 A0 k0 s, .box b6 82 [.slice none 0 0, .bool false, .slice none 0 0, .slice none 0 0], .box b5 62 [.slice A v.length k2], .old w none_])
    (fun t => t.1 ≤ c.bads.length ∧ t.2.1 = selI v c.bads t.1) (fun t => c.bads.length - t.1) (0, [], none, 0) (by repeat first | exact Pick.nil | (apply Pick.cons; eq_refl)) (by repeat first | exact trivial | refine ⟨rfl, ?_⟩) (by repeat first | exact Wk.nil | exact Wk.refl | (apply Wk.cons; (focus ((repeat first | exact Rem.here | apply Rem.there | apply Rem.skip); done))) | apply Wk.nilv | apply Wk.last | apply Wk.drop) ⟨Nat.zero_le _, rfl⟩ ?_
  rintro ⟨i, B, AB, kB⟩ ⟨hi, hB⟩
  dsimp only at hi hB ⊢
  have hBl : B.length ≤ i := by rw [hB]; exact selI_len ..
  rcases Nat.lt_or_ge i c.bads.length with hlt | hge
  · have hl := R.bad (gt_mem (l := c.bads) (i := (i : Int)) (by omega) (by omega))
    repeat' (first
      | (apply G_call; eq_refl; eq_refl; (apply hlit; (repeat first | exact In.here | apply In.there | apply In.skip); assumption); rintro _ _ ⟨rfl, rfl⟩)
      | (apply GC_seqK; intro K hK)
      | (apply hK; clear hK K)
      | (apply GC_block)
      | (apply GC_region)
      | (apply GL_nil)
      | (apply thenG_normal)
      | (apply blockG_normal)
      | (apply GC_skip)
      | (apply GC_if_true; eq_refl)
      | (apply GC_if; eq_refl; all_goals intro _)
      | (apply GL_on; eq_refl; eq_refl)
      | (apply G_pv; eq_refl; first | exact trivial | omega)
      | (apply G_field; eq_refl)
      | (apply G_ld; eq_refl; (repeat first | exact In.here | apply In.there | apply In.skip); eq_refl)
      | (apply G_rd; eq_refl; (first | (apply Rd.own; (repeat first | exact In.here | apply In.there | apply In.skip); infer_instance) | (apply Rd.old; (repeat first | exact In.here | apply In.there | apply In.skip); assumption) | (apply Rd.oldR; (repeat first | exact In.here | apply In.there | apply In.skip); assumption) | exact Rd.nil | assumption); (case ih => infer_instance); omega; omega; eq_refl)
      | (apply G_cmpT; eq_refl; eq_refl; omega)
      | (apply G_ix; eq_refl; eq_refl; (first | (apply Rd.own; (repeat first | exact In.here | apply In.there | apply In.skip); infer_instance) | (apply Rd.old; (repeat first | exact In.here | apply In.there | apply In.skip); assumption) | (apply Rd.oldR; (repeat first | exact In.here | apply In.there | apply In.skip); assumption) | exact Rd.nil | assumption); (first | eq_refl | omega); omega; omega)
      | (apply G_st; (first | exact wr_p | kernel_rfl); eq_refl; eq_refl; eq_refl; eq_refl; (repeat first | exact Upd.here | apply Upd.there | apply Upd.skip); (first | decide | exact Nat.le_of_ble_eq_true rfl))
      | (apply G_app; (first | exact wr_p | kernel_rfl); eq_refl; eq_refl; (intro A c; (repeat first | exact Upd.here | apply Upd.there | apply Upd.skip)); infer_instance; (repeat first | exact In.here | apply In.there | apply In.skip); (repeat first | exact Dec.nil | apply Dec.pr | apply Dec.tr | (apply Dec.c1; eq_refl) | (apply Dec.c2; eq_refl) | (apply Dec.c3; eq_refl)); eq_refl; eq_refl; eq_refl; ((try simp only [List.length_append, List.length_cons, List.length_nil]); omega); decide; intro _ _)
      | (apply G_new (fun b => .slice (some ⟨b, 0, none⟩) 1 1); eq_refl; (intro _; apply buildS45_1 <;> eq_refl); intro _))
    · exact ⟨(i + 1, _, _, _), (by repeat first | exact trivial | refine ⟨rfl, ?_⟩), (by repeat first | exact Wk.nil | exact Wk.refl | (apply Wk.cons; (focus ((repeat first | exact Rem.here | apply Rem.there | apply Rem.skip); done))) | apply Wk.nilv | apply Wk.last | apply Wk.drop), ⟨hlt, by rw [selI_t (by assumption), hB]⟩, by simp only; omega⟩
    · exact ⟨(i + 1, _, _, _), (by repeat first | exact trivial | refine ⟨rfl, ?_⟩), (by repeat first | exact Wk.nil | exact Wk.refl | (apply Wk.cons; (focus ((repeat first | exact Rem.here | apply Rem.there | apply Rem.skip); done))) | apply Wk.nilv | apply Wk.last | apply Wk.drop), ⟨hlt, by rw [selI_f (by assumption), hB]⟩, by simp only; omega⟩
  · obtain rfl : i = c.bads.length := by omega
    repeat' (first
      | (apply GC_seqK; intro K hK)
      | (apply hK; clear hK K)
      | (clear hK K; apply hK; clear hK K)
      | (apply GC_block)
      | (apply GC_region)
      | (apply GL_nil)
      | (apply thenG_normal)
      | (apply thenG_exit)
      | (apply blockG_hit)
      | (apply GC_exit)
      | (apply GC_if_false; eq_refl)
      | (apply GL_on; eq_refl; eq_refl)
      | (apply G_pv; eq_refl; first | exact trivial | omega)
      | (apply G_field; eq_refl)
      | (apply G_ldO; eq_refl; (repeat first | exact In.here | apply In.there | apply In.skip); assumption; eq_refl)
      | (apply G_cmpF; eq_refl; eq_refl; omega)
      | (apply G_len; eq_refl)
      | (apply G_fun; eq_refl))
    refine GC_loopK [0, 5, 6, 7, 10, 45, 46] (fun t : Nat × List (Int × Int) × Option Addr × Nat => [(47, nu t.1)]) (fun t => [.box b7 82 [.slice A0 s.length k0, .bool (c.constraints.all (lv v)), .slice AB B.length kB, .slice t.2.2.1 t.2.1.length t.2.2.2], .vec spotc 2 138 t.2.2.1 t.2.2.2 t.2.1, .vec icell 1 3 AB kB B, .vec booc 1 4 A0 k0 s, .box b6 82 [.slice none 0 0, .bool false, .slice none 0 0, .slice none 0 0], .box b5 62 [.slice A v.length k2], .old w none_])
      (fun t => t.1 ≤ c.justice.length ∧ t.2.1 = fairJ v c.justice t.1) (fun t => c.justice.length - t.1) (0, [], none, 0) (by repeat first | exact Pick.nil | (apply Pick.cons; eq_refl)) (by repeat first | exact trivial | refine ⟨rfl, ?_⟩) (by repeat first | exact Wk.nil | exact Wk.refl | (apply Wk.cons; (focus ((repeat first | exact Rem.here | apply Rem.there | apply Rem.skip); done))) | apply Wk.nilv | apply Wk.last | apply Wk.drop) ⟨Nat.zero_le _, rfl⟩ ?_
    rintro ⟨i, F, AF, kF⟩ ⟨hi2, hF⟩
    dsimp only at hi2 hF ⊢
    have hFl := fairJ_len v c.justice i hi2
    rw [← hF] at hFl
    rcases Nat.lt_or_ge i c.justice.length with hlt | hge
    · have hje := H.jeach (js := js) hlt
      have ej := jps_gt c js hlt
      have el : (gt (jps c js) (i : Int)).2 = c.justice.getD i [] := by rw [ej]; simp [hlt]
      have hes := each_sum hlt
      have el2 : (gt (jps c js) (i : Int)).2.length = c.justice[i].length := by rw [ej]
      have hin : ∀ l ∈ (gt (jps c js) (i : Int)).2, inR c l := fun l hl => R.just (ls := c.justice[i]) (List.getElem_mem hlt) (by rw [ej] at hl; exact hl)
      have hsc := fairJ_succ v c.justice i
      rw [← el, ← hF] at hsc
      repeat' (first
      | (apply G_callC (C := fairC b7 _ _ _ AF kF F); exact wr_p; eq_refl; infer_instance; eq_refl; (repeat first | exact Rems.nil | (apply Rems.cons; (focus ((repeat first | exact Rem.here | apply Rem.there | apply Rem.skip); done)))); (apply hfr; (repeat first | exact Rems.nil | (apply Rems.cons; (focus ((repeat first | exact Rem.here | apply Rem.there | apply Rem.skip); done)))); (repeat first | exact In.here | apply In.there | apply In.skip); (repeat first | exact In.here | apply In.there | apply In.skip); exact hje; exact hin; omega); rintro _ _ ⟨rfl, A9, k9, rfl⟩)
      | (apply GC_seqK; intro K hK)
      | (apply hK; clear hK K)
      | (apply GC_block)
      | (apply GC_region)
      | (apply GL_nil)
      | (apply thenG_normal)
      | (apply blockG_normal)
      | (apply GC_skip)
      | (apply GC_if_true; eq_refl)
      | (apply GL_on; eq_refl; eq_refl)
      | (apply G_pv; eq_refl; first | exact trivial | omega)
      | (apply G_rd; eq_refl; (first | (apply Rd.own; (repeat first | exact In.here | apply In.there | apply In.skip); infer_instance) | (apply Rd.old; (repeat first | exact In.here | apply In.there | apply In.skip); assumption) | (apply Rd.oldR; (repeat first | exact In.here | apply In.there | apply In.skip); assumption) | exact Rd.nil | assumption); (case ih => infer_instance); omega; omega; eq_refl)
      | (apply G_cmpT; eq_refl; eq_refl; omega)
      | (apply G_ix; eq_refl; eq_refl; (first | (apply Rd.own; (repeat first | exact In.here | apply In.there | apply In.skip); infer_instance) | (apply Rd.old; (repeat first | exact In.here | apply In.there | apply In.skip); assumption) | (apply Rd.oldR; (repeat first | exact In.here | apply In.there | apply In.skip); assumption) | exact Rd.nil | assumption); (first | eq_refl | omega); omega; omega))
      exact ⟨(i + 1, _, _, _), (by repeat first | exact trivial | refine ⟨rfl, ?_⟩), (by repeat first | exact Wk.nil | exact Wk.refl | (apply Wk.cons; (focus ((repeat first | exact Rem.here | apply Rem.there | apply Rem.skip); done))) | apply Wk.nilv | apply Wk.last | apply Wk.drop), ⟨hlt, by rw [hsc]⟩, by simp only; omega⟩
    · obtain rfl : i = c.justice.length := by omega
      rw [List.take_length] at hFl
      repeat' (first
      | (apply G_callC (C := fairC b7 _ _ _ AF kF F); exact wr_p; eq_refl; infer_instance; eq_refl; (repeat first | exact Rems.nil | (apply Rems.cons; (focus ((repeat first | exact Rem.here | apply Rem.there | apply Rem.skip); done)))); (apply hfr; (repeat first | exact Rems.nil | (apply Rems.cons; (focus ((repeat first | exact Rem.here | apply Rem.there | apply Rem.skip); done)))); (repeat first | exact In.here | apply In.there | apply In.skip); (repeat first | exact In.here | apply In.there | apply In.skip); exact hFair; exact fun l hl => R.fair hl; omega); rintro _ _ ⟨rfl, A9, k9, rfl⟩)
      | (apply GC_seqK; intro K hK)
      | (apply hK; clear hK K)
      | (clear hK K; apply hK; clear hK K)
      | (apply GC_region)
      | (apply GL_nil)
      | (apply thenG_normal)
      | (apply thenG_exit)
      | (apply blockG_hit)
      | (apply GC_ret)
      | (apply GC_exit)
      | (apply GC_if_false; eq_refl)
      | (apply retGC0; eq_refl; (repeat first | exact In.here | apply In.there | apply In.skip); eq_refl)
      | (apply GL_on; eq_refl; eq_refl)
      | (apply G_pv; eq_refl; first | exact trivial | omega)
      | (apply G_field; eq_refl)
      | (apply G_ldW; eq_refl; (repeat first | exact In.here | apply In.there | apply In.skip); eq_refl)
      | (apply G_ldO; eq_refl; (repeat first | exact In.here | apply In.there | apply In.skip); assumption; eq_refl)
      | (apply G_cmpF; eq_refl; eq_refl; omega)
      | (apply G_stW; (first | exact wr_p | kernel_rfl); eq_refl; eq_refl; eq_refl; eq_refl; (repeat first | exact Upd.here | apply Upd.there | apply Upd.skip); eq_refl))
      subst hF hB
      exact ⟨_, (by repeat first | exact Wk.nil | exact Wk.refl | (apply Wk.cons; (focus ((repeat first | exact Rem.here | apply Rem.there | apply Rem.skip); done))) | apply Wk.nilv | apply Wk.last | apply Wk.drop), ((A0, k0), (AB, kB), (A9, k9)), rfl, rfl⟩
end SC
end Go.Proofs.Ytkndegjodnciaaa
end
section
/- Traces and runs. trestleref07: Fits, Run0, Run; sim: Run. -/
set_option linter.unusedVariables false
set_option linter.unusedSimpArgs false
namespace Go.Proofs.Ytkndegjodnciaaa
namespace SC
open Go.Proofs
abbrev Hdl := Option Addr × Nat
/-- A trace, each row with its handle. -/
structure Trc where
  init : List Bool
  rows : List (Hdl × List Bool)
  loop : Int
def tcs (t : Trc) (a b : Hdl) : List Value := [.slice a.1 t.init.length a.2, .slice b.1 t.rows.length b.2, nu t.loop]
structure TrcIn (w : World) (t : Trc) (a b : Hdl) : Prop where
  init : RowA w booc 1 a.1 t.init
  rows : RowA w encS 1 b.1 t.rows
  each : ∀ p ∈ t.rows, RowA w booc 1 p.1.1 p.2
  nila : a.1 = none → a.2 = 0
  nilb : b.1 = none → b.2 = 0
  nile : ∀ p ∈ t.rows, p.1.1 = none → p.1.2 = 0
  li : t.init.length ≤ 140737488351232
  lr : t.rows.length ≤ 5864062014634
  le : ∀ p ∈ t.rows, p.2.length ≤ 140737488351232
  lo : fits t.loop
theorem TrcIn.chg {w w' : World} {t : Trc} {a b : Hdl} (H : TrcIn w t a b) (hc : Chg w w' none_) : TrcIn w' t a b := ⟨H.init.chg hc, H.rows.chg hc, fun p hp => (H.each p hp).chg hc, H.nila, H.nilb, H.nile, H.li, H.lr, H.le, H.lo⟩
def fitsM (c : Circ) (t : Trc) : Bool := decide (t.init.length = c.latches.length) && decide (1 ≤ t.rows.length) && decide (t.rows.length ≤ 512) && decide (-1 ≤ t.loop) && decide (t.loop < t.rows.length) && t.rows.all fun p => decide (p.2.length = c.inputs.length)
structure Fit (c : Circ) (t : Trc) : Prop where
  init : t.init.length = c.latches.length
  pos : 1 ≤ t.rows.length
  few : t.rows.length ≤ 512
  lo : -1 ≤ t.loop
  hi : t.loop < t.rows.length
  rows : ∀ p ∈ t.rows, p.2.length = c.inputs.length
theorem fitsM_iff {c : Circ} {t : Trc} : fitsM c t = true ↔ Fit c t := by
  unfold fitsM
  simp only [Bool.and_eq_true, decide_eq_true_eq, List.all_eq_true]
  exact ⟨fun ⟨⟨⟨⟨⟨h1, h2⟩, h3⟩, h4⟩, h5⟩, h6⟩ => ⟨h1, h2, h3, h4, h5, h6⟩, fun h => ⟨⟨⟨⟨⟨h.init, h.pos⟩, h.few⟩, h.lo⟩, h.hi⟩, h.rows⟩⟩
/-- The states of a run, and what is so in its steps. -/
noncomputable def stM (c : Circ) (t : Trc) : Nat → List Bool
  | 0 => t.init
  | k + 1 => nxtM c (valM c (stM c t k) (gt t.rows (k : Int)).2)
noncomputable def runM (c : Circ) (t : Trc) (n : Nat) : List Mom := (List.range n).map fun k => momM c (stM c t k) (valM c (stM c t k) (gt t.rows (k : Int)).2)
theorem runM_succ (c : Circ) (t : Trc) (n : Nat) : runM c t (n + 1) = runM c t n ++ [momM c (stM c t n) (valM c (stM c t n) (gt t.rows (n : Int)).2)] := by unfold runM; rw [List.range_succ, List.map_append]; rfl
theorem runM_len (c : Circ) (t : Trc) (n : Nat) : (runM c t n).length = n := by unfold runM; simp
theorem stM_len {c : Circ} {t : Trc} (h : t.init.length = c.latches.length) : ∀ k, (stM c t k).length = c.latches.length
  | 0 => h
  | k + 1 => by unfold stM nxtM; simp
noncomputable def runE (c : Circ) (t : Trc) : Int := if (lookM c).2 ≠ 0 then (lookM c).2 else if fitsM c t = true then 0 else 4
noncomputable def runsM (c : Circ) (t : Trc) : List Mom := if runE c t = 0 then runM c t t.rows.length else []
theorem runE_look {c : Circ} {t : Trc} (h : (lookM c).2 ≠ 0) : runE c t = (lookM c).2 := if_pos h
theorem runE_fit {c : Circ} {t : Trc} (h : (lookM c).2 = 0) (h2 : Fit c t) : runE c t = 0 := by unfold runE; rw [if_neg (by omega), if_pos (fitsM_iff.2 h2)]
theorem runE_not {c : Circ} {t : Trc} (h : (lookM c).2 = 0) (h2 : ¬ Fit c t) : runE c t = 4 := by unfold runE; rw [if_neg (by omega), if_neg (fun hh => h2 (fitsM_iff.1 hh))]
theorem runE_zero {c : Circ} {t : Trc} (h : runE c t = 0) : (lookM c).2 = 0 ∧ Fit c t := by
  unfold runE at h
  split at h
  · exact absurd h (by assumption)
  · split at h
    · rename_i h1 h2; exact ⟨by omega, fitsM_iff.1 h2⟩
    · cases h
/-- What Run answers. -/
def RunR (c : Circ) (t : Trc) (v : Value) (N : Mm) : Prop := ∃ (ps : List (HMom × Mom)) (A : Option Addr) (k : Nat), v = .tuple #[.slice A ps.length k, nu (runE c t)] ∧ ps.map (·.2) = runsM c t ∧ N = .vec encM 4 82 A k ps :: fam momE ps
theorem In.nil0 {Γ : Mm} {α : Type} {enc : α → List Value} {sz : Nat} {t : TypeId} {A : Option Addr} {c : Nat} {l : List α} {w : World} (h : In Γ (.vec enc sz t A c l)) (M : Mem w Γ) (hA : A = none) : c = 0 := by
  rcases (h.ok M).2 with ⟨h1, _⟩ | ⟨g, cap, cur, h1, _⟩
  · simp only [Value.slice.injEq] at h1; exact h1.2.2
  · simp only [Value.slice.injEq] at h1; rw [h1.1] at hA; cases hA
instance : Inhabited HMom := ⟨((none, 0), (none, 0), (none, 0))⟩
attribute [local irreducible] WC WL WX WS WO OX Does DoesU Enters CV Pure thenQ blockQ retQ Wants retQC GC GL GS GX RdB thenG blockG retG Rd At gt CVN CVM
set_option maxRecDepth 100000
end SC
end Go.Proofs.Ytkndegjodnciaaa
end
section
/- trestleref07: Run; sim: Run. -/
set_option linter.unusedVariables false
set_option linter.unusedSimpArgs false
namespace Go.Proofs.Ytkndegjodnciaaa
namespace SC
open Go.Proofs
def stEnt : Nat → Option Addr → Nat → List Bool → Mm
  | 0, _, _, _ => []
  | _ + 1, A, k, l => [.vec booc 1 4 A k l]
attribute [local irreducible] WC WL WX WS WO OX Does DoesU Enters CV Pure thenQ blockQ retQ Wants retQC GC GL GS GX RdB thenG blockG retG Rd At gt CVN CVM
set_option maxRecDepth 100000
theorem Run_cv {w : World} {c : Circ} {h js : Hd} {t : Trc} {a b : Hdl} (H : CirIn w c h js) (HT : TrcIn w t a b) : CVN Try.prog 42 [.agg (ccells c h).toArray, .agg (tcs t a b).toArray] w (RunR c t) := by
  have hrd : ∀ Γ, In Γ (.old w none_) → ∀ w', Mem w' Γ → CVN Try.prog 107 [.agg (ccells c h).toArray] w' (ReadyR c h) := fun Γ hi w' M => ready_cv (H.chg (hi.old M))
  have hI := HT.init
  have hR := HT.rows
  have hlr := HT.lr
  have hli := HT.li
  have hlo := HT.lo
  unfold fits at hlo
  refine CVN.enter 94 [4, 5] Try.func42 rfl rfl rfl (by decide) rfl ?_
  by_cases he : (lookM c).2 = 0
  · have R := right_of H.at_ H.sane he
    have n1 := R.nIn
    have n2 := R.nLat
    by_cases h1 : 1 ≤ t.rows.length ∧ t.rows.length ≤ 512 ∧ -1 ≤ t.loop ∧ t.loop < t.rows.length ∧ t.init.length = c.latches.length
    · obtain ⟨g2, g3, g4, g5, g1⟩ := h1
      repeat' (first
      | (apply G_call; eq_refl; eq_refl; (apply hrd; (repeat first | exact In.here | apply In.there | apply In.skip)); rintro _ _ (⟨he', rfl, rfl⟩ | ⟨_, p1, B1, k1, rfl, rfl⟩); (exact absurd he he'))
      | (apply GC_seqK; intro K hK)
      | (apply hK; clear hK K)
      | (apply GC_block)
      | (apply GC_region)
      | (apply GL_nil)
      | (apply thenG_normal)
      | (apply GC_skip)
      | (apply GC_if_false; eq_refl)
      | (apply GL_on; eq_refl; eq_refl)
      | (apply G_pv; eq_refl; first | exact trivial | omega)
      | (apply G_field; eq_refl)
      | (apply G_ld; eq_refl; (repeat first | exact In.here | apply In.there | apply In.skip); eq_refl)
      | (apply G_ldW; eq_refl; (repeat first | exact In.here | apply In.there | apply In.skip); eq_refl)
      | (apply G_cmpF; eq_refl; eq_refl; omega)
      | (apply G_len; eq_refl)
      | (apply G_box; eq_refl; eq_refl; intro _))
      rename_i b2 b3 hz
      refine GC_loopK [2, 3, 6, 8, 54, 55] (fun i : Nat => [(56, nu i)]) (fun _ => [.box p1 163 (rcells c h B1 k1), .vec icell 1 3 B1 k1 (ordM c), .box b3 73 (tcs t a b), .box b2 51 (ccells c h), .old w none_]) (fun i => i ≤ t.rows.length ∧ ∀ k < i, (gt t.rows (k : Int)).2.length = c.inputs.length) (fun i => t.rows.length - i) 0 (by repeat first | exact Pick.nil | (apply Pick.cons; eq_refl)) (by repeat first | exact trivial | refine ⟨rfl, ?_⟩) (by repeat first | exact Wk.nil | exact Wk.refl | (apply Wk.cons; (focus ((repeat first | exact Rem.here | apply Rem.there | apply Rem.skip); done))) | apply Wk.nilv | apply Wk.last | apply Wk.drop) ⟨Nat.zero_le _, fun k hk => absurd hk (Nat.not_lt_zero _)⟩ ?_
      rintro i ⟨hi, hall⟩
      rcases Nat.lt_or_ge i t.rows.length with hlt | hge
      · have hm := gt_mem (l := t.rows) (i := (i : Int)) (by omega) (by omega)
        have hle := HT.le _ hm
        by_cases hx : (gt t.rows (i : Int)).2.length = c.inputs.length
        · repeat' (first
      | (apply GC_seqK; intro K hK)
      | (apply hK; clear hK K)
      | (apply GC_block)
      | (apply GC_region)
      | (apply GL_nil)
      | (apply thenG_normal)
      | (apply blockG_normal)
      | (apply GC_skip)
      | (apply GC_if_true; eq_refl)
      | (apply GC_if_false; eq_refl)
      | (apply GL_on; eq_refl; eq_refl)
      | (apply G_pv; eq_refl; first | exact trivial | omega)
      | (apply G_field; eq_refl)
      | (apply G_ld; eq_refl; (repeat first | exact In.here | apply In.there | apply In.skip); eq_refl)
      | (apply G_rd; eq_refl; (first | (apply Rd.own; (repeat first | exact In.here | apply In.there | apply In.skip); infer_instance) | (apply Rd.old; (repeat first | exact In.here | apply In.there | apply In.skip); assumption) | (apply Rd.oldR; (repeat first | exact In.here | apply In.there | apply In.skip); assumption) | exact Rd.nil | assumption); (case ih => infer_instance); omega; omega; eq_refl)
      | (apply G_cmpT; eq_refl; eq_refl; omega)
      | (apply G_cmpF; eq_refl; eq_refl; omega)
      | (apply G_len; eq_refl)
      | (apply G_ix; eq_refl; eq_refl; (first | (apply Rd.own; (repeat first | exact In.here | apply In.there | apply In.skip); infer_instance) | (apply Rd.old; (repeat first | exact In.here | apply In.there | apply In.skip); assumption) | (apply Rd.oldR; (repeat first | exact In.here | apply In.there | apply In.skip); assumption) | exact Rd.nil | assumption); (first | eq_refl | omega); omega; omega))
          exact ⟨i + 1, (by repeat first | exact trivial | refine ⟨rfl, ?_⟩), (by repeat first | exact Wk.nil | exact Wk.refl | (apply Wk.cons; (focus ((repeat first | exact Rem.here | apply Rem.there | apply Rem.skip); done))) | apply Wk.nilv | apply Wk.last | apply Wk.drop), ⟨hlt, fun k hk => if h1 : k < i then hall k h1 else by rw [show k = i by omega]; exact hx⟩, by omega⟩
        · have hnF : ¬ Fit c t := fun hf => hx (hf.rows _ hm)
          have e1 : runsM c t = [] := if_neg (by rw [runE_not he hnF]; decide)
          unfold RunR
          rw [runE_not he hnF, e1]
          repeat' (first
      | (apply GC_seqK; intro K hK)
      | (apply hK; clear hK K)
      | (apply GC_block)
      | (apply GC_region)
      | (apply GL_nil)
      | (apply thenG_normal)
      | (apply thenG_ret)
      | (apply blockG_ret)
      | (apply GC_ret)
      | (apply GC_skip)
      | (apply GC_if_true; eq_refl)
      | (apply retG2; eq_refl; eq_refl)
      | (apply GL_on; eq_refl; eq_refl)
      | (apply G_pv; eq_refl; first | exact trivial | omega)
      | (apply G_field; eq_refl)
      | (apply G_ld; eq_refl; (repeat first | exact In.here | apply In.there | apply In.skip); eq_refl)
      | (apply G_rd; eq_refl; (first | (apply Rd.own; (repeat first | exact In.here | apply In.there | apply In.skip); infer_instance) | (apply Rd.old; (repeat first | exact In.here | apply In.there | apply In.skip); assumption) | (apply Rd.oldR; (repeat first | exact In.here | apply In.there | apply In.skip); assumption) | exact Rd.nil | assumption); (case ih => infer_instance); omega; omega; eq_refl)
      | (apply G_cmpT; eq_refl; eq_refl; omega)
      | (apply G_len; eq_refl)
      | (apply G_ix; eq_refl; eq_refl; (first | (apply Rd.own; (repeat first | exact In.here | apply In.there | apply In.skip); infer_instance) | (apply Rd.old; (repeat first | exact In.here | apply In.there | apply In.skip); assumption) | (apply Rd.oldR; (repeat first | exact In.here | apply In.there | apply In.skip); assumption) | exact Rd.nil | assumption); (first | eq_refl | omega); omega; omega))
          exact ⟨[.vec encM 4 82 none 0 []], (by repeat first | exact Wk.nil | exact Wk.refl | (apply Wk.cons; (focus ((repeat first | exact Rem.here | apply Rem.there | apply Rem.skip); done))) | apply Wk.nilv | apply Wk.last | apply Wk.drop), [], none, 0, rfl, rfl, rfl⟩
      · have F : Fit c t := ⟨g1, g2, g3, g4, g5, fun p hp => by
          obtain ⟨k, hk, rfl⟩ := List.mem_iff_getElem.1 hp
          rw [← gt_nat hk]
          exact hall k (by omega)⟩
        have e1 : runsM c t = runM c t t.rows.length := if_pos (runE_fit he F)
        have hv0 : ∀ Γ S k s (i : Nat), i < t.rows.length → s = stM c t i → In Γ (.old w none_) → Rd Γ booc 1 S s → In Γ (.box p1 163 (rcells c h B1 k1)) → In Γ (.vec icell 1 3 B1 k1 (ordM c)) → ∀ w', Mem w' Γ → CVN Try.prog 108 [pt p1, .slice S s.length k, .slice (gt t.rows (i : Int)).1.1 (gt t.rows (i : Int)).2.length (gt t.rows (i : Int)).1.2] w' _ := fun Γ S k s i hi hs ho hv hb hov w' M => by
          have hm := gt_mem (l := t.rows) (i := (i : Int)) (by omega) (by omega)
          exact values_cv R (hb.box M) (H.at_.chg (ho.old M)) (hov.row M) (hv.at M) ((HT.each _ hm).chg (ho.old M)) (by rw [hs]; exact stM_len F.init i) (F.rows _ hm)
        have hmo : ∀ Γ S k A' k' s r, s.length = c.latches.length → In Γ (.old w none_) → Rd Γ booc 1 S s → In Γ (.box p1 163 (rcells c h B1 k1)) → In Γ (.vec booc 1 4 A' k' (valM c s r)) → ∀ w', Mem w' Γ → CVN Try.prog 109 [pt p1, .slice S s.length k, .slice A' (valM c s r).length k'] w' _ := fun Γ S k A' k' s r hs ho hv hb hv' w' M =>
          moment_cv R (hb.box M) (H.at_.chg (ho.old M)) H.fits (hv.at M) (by omega) (hv'.row M) (valM_len c s r)
        have hnx : ∀ Γ A k s r, In Γ (.old w none_) → In Γ (.box p1 163 (rcells c h B1 k1)) → In Γ (.vec booc 1 4 A k (valM c s r)) → ∀ w', Mem w' Γ → CVN Try.prog 110 [pt p1, .slice A (valM c s r).length k] w' _ := fun Γ A k s r ho hb hv w' M =>
          next_cv (hb.box M) (H.at_.chg (ho.old M)) (hv.row M) R.nLat fun x hx => (R.lat hx).2.1.has R.m1 (valM_len c s r)
        repeat' (first
      | (apply G_make0 encM; eq_refl; eq_refl; eq_refl; omega; eq_refl; omega; decide; omega; intro b0 c0)
      | (apply GC_seqK; intro K hK)
      | (apply hK; clear hK K)
      | (clear hK K; apply hK; clear hK K)
      | (apply GC_block)
      | (apply GC_region)
      | (apply GL_nil)
      | (apply thenG_normal)
      | (apply thenG_exit)
      | (apply blockG_hit)
      | (apply GC_exit)
      | (apply GC_if_false; eq_refl)
      | (apply GL_on; eq_refl; eq_refl)
      | (apply G_pv; eq_refl; first | exact trivial | omega)
      | (apply G_field; eq_refl)
      | (apply G_ld; eq_refl; (repeat first | exact In.here | apply In.there | apply In.skip); eq_refl)
      | (apply G_cmpF; eq_refl; eq_refl; omega)
      | (apply G_len; eq_refl))
        refine GC_loopK [3, 6, 72, 73] (fun s : Nat × (List Bool × Option Addr × Nat) × (List (HMom × Mom) × Option Addr × Nat) => [(12, .slice s.2.1.2.1 s.2.1.1.length s.2.1.2.2), (11, .slice s.2.2.2.1 s.2.2.1.length s.2.2.2.2), (74, nu s.1)])
          (fun s => stEnt s.1 s.2.1.2.1 s.2.1.2.2 s.2.1.1 ++ .vec encM 4 82 s.2.2.2.1 s.2.2.2.2 s.2.2.1 :: .box p1 163 (rcells c h B1 k1) :: .vec icell 1 3 B1 k1 (ordM c) :: .box b3 73 (tcs t a b) :: .old w none_ :: fam momE s.2.2.1)
          (fun s => s.1 ≤ t.rows.length ∧ s.2.1.1 = stM c t s.1 ∧ s.2.2.1.map (·.2) = runM c t s.1 ∧ (s.1 = 0 → s.2.1 = (t.init, a.1, a.2))) (fun s => t.rows.length - s.1) (0, (t.init, a.1, a.2), ([], some ⟨b0, 0, none⟩, c0)) (by repeat first | exact Pick.nil | (apply Pick.cons; eq_refl)) (by repeat first | exact trivial | refine ⟨rfl, ?_⟩) (by repeat first | exact Wk.nil | exact Wk.refl | (apply Wk.cons; (focus ((repeat first | exact Rem.here | apply Rem.there | apply Rem.skip); done))) | apply Wk.nilv | apply Wk.last | apply Wk.drop) ⟨Nat.zero_le _, rfl, rfl, fun _ => rfl⟩ ?_
        rintro ⟨i, ⟨st, A8, c8⟩, ⟨ps, A9, c9⟩⟩ ⟨hi, hst, hps, h0⟩
        dsimp only at hi hst hps h0 ⊢
        have hpl : ps.length = i := by have := congrArg List.length hps; rw [List.length_map, runM_len] at this; exact this
        have hsl : st.length = c.latches.length := by rw [hst]; exact stM_len F.init i
        rcases Nat.lt_or_ge i t.rows.length with hlt | hge
        · have hrow : RowA w booc 1 A8 st ∨ 0 < i := by
            rcases Nat.eq_zero_or_pos i with h1 | h1
            · have := h0 h1
              simp only [Prod.mk.injEq] at this
              rw [this.1, this.2.1]
              exact .inl hI
            · exact .inr h1
          have hex : ∀ {Γ'' : Mm}, True := fun {_} => trivial
          cases i with
          | zero =>
            have hS : RowA w booc 1 A8 st := hrow.resolve_right (by omega)
            repeat' (first
      | (apply G_call; eq_refl; eq_refl; (apply hv0; exact hlt; exact hst; (repeat first | exact In.here | apply In.there | apply In.skip); (first | (apply Rd.own; (repeat first | exact In.here | apply In.there | apply In.skip); infer_instance) | (apply Rd.old; (repeat first | exact In.here | apply In.there | apply In.skip); assumption) | (apply Rd.oldR; (repeat first | exact In.here | apply In.there | apply In.skip); assumption) | exact Rd.nil | assumption); (repeat first | exact In.here | apply In.there | apply In.skip); (repeat first | exact In.here | apply In.there | apply In.skip)); rintro _ _ ⟨A11, k11, rfl, rfl⟩)
      | (apply G_call; eq_refl; eq_refl; (apply hmo; exact hsl; (repeat first | exact In.here | apply In.there | apply In.skip); (first | (apply Rd.own; (repeat first | exact In.here | apply In.there | apply In.skip); infer_instance) | (apply Rd.old; (repeat first | exact In.here | apply In.there | apply In.skip); assumption) | (apply Rd.oldR; (repeat first | exact In.here | apply In.there | apply In.skip); assumption) | exact Rd.nil | assumption); (repeat first | exact In.here | apply In.there | apply In.skip); (repeat first | exact In.here | apply In.there | apply In.skip)); rintro _ _ ⟨hm, rfl, rfl⟩)
      | (apply G_call; eq_refl; eq_refl; (apply hnx; (repeat first | exact In.here | apply In.there | apply In.skip); (repeat first | exact In.here | apply In.there | apply In.skip); (repeat first | exact In.here | apply In.there | apply In.skip)); rintro _ _ ⟨A12, k12, rfl, rfl⟩)
      | (apply G_app; exact wr_p; eq_refl; eq_refl; (intro A c; (repeat first | exact Upd.here | apply Upd.there | apply Upd.skip)); infer_instance; (repeat first | exact In.here | apply In.there | apply In.skip); exact Dec.one (hm, momM _ _ _); eq_refl; eq_refl; eq_refl; (simp only [List.length_cons, List.length_nil]; omega); decide; intro A13 k13)
      | (apply GC_seqK; intro K hK)
      | (apply hK; clear hK K)
      | (apply GC_block)
      | (apply GC_region)
      | (apply GL_nil)
      | (apply thenG_normal)
      | (apply blockG_normal)
      | (apply GC_skip)
      | (apply GC_if_true; eq_refl)
      | (apply GL_on; eq_refl; eq_refl)
      | (apply G_pv; eq_refl; first | exact trivial | omega)
      | (apply G_rd; eq_refl; (first | (apply Rd.own; (repeat first | exact In.here | apply In.there | apply In.skip); infer_instance) | (apply Rd.old; (repeat first | exact In.here | apply In.there | apply In.skip); assumption) | (apply Rd.oldR; (repeat first | exact In.here | apply In.there | apply In.skip); assumption) | exact Rd.nil | assumption); (case ih => infer_instance); omega; omega; eq_refl)
      | (apply G_cmpT; eq_refl; eq_refl; omega)
      | (apply G_ix; eq_refl; eq_refl; (first | (apply Rd.own; (repeat first | exact In.here | apply In.there | apply In.skip); infer_instance) | (apply Rd.old; (repeat first | exact In.here | apply In.there | apply In.skip); assumption) | (apply Rd.oldR; (repeat first | exact In.here | apply In.there | apply In.skip); assumption) | exact Rd.nil | assumption); (first | eq_refl | omega); omega; omega)
      | (apply G_new (fun b => .slice (some ⟨b, 0, none⟩) 1 1); eq_refl; (intro _; apply buildS75_1 <;> eq_refl); intro _))
            refine ⟨(0 + 1, (_, _, _), (_, _, _)), (by repeat first | exact trivial | refine ⟨rfl, ?_⟩), ?_, ⟨hlt, ?_, ?_, fun h => by simp at h⟩, by simp only; omega⟩
            · dsimp only
              rw [fam_snoc]
              exact (by repeat first | exact Wk.nil | exact Wk.refl | (apply Wk.cons; (focus ((repeat first | exact Rem.here | apply Rem.there | apply Rem.skip); done))) | apply Wk.nilv | apply Wk.last | apply Wk.drop)
            · dsimp only
              first | (rw [hst]; done) | (rw [hst]; rfl)
            · dsimp only
              rw [runM_succ c t 0, List.map_append, hps, ← hst]
              first | done | rfl
          | succ i =>
            repeat' (first
      | (apply G_call; eq_refl; eq_refl; (apply hv0; exact hlt; exact hst; (repeat first | exact In.here | apply In.there | apply In.skip); (first | (apply Rd.own; (repeat first | exact In.here | apply In.there | apply In.skip); infer_instance) | (apply Rd.old; (repeat first | exact In.here | apply In.there | apply In.skip); assumption) | (apply Rd.oldR; (repeat first | exact In.here | apply In.there | apply In.skip); assumption) | exact Rd.nil | assumption); (repeat first | exact In.here | apply In.there | apply In.skip); (repeat first | exact In.here | apply In.there | apply In.skip)); rintro _ _ ⟨A11, k11, rfl, rfl⟩)
      | (apply G_call; eq_refl; eq_refl; (apply hmo; exact hsl; (repeat first | exact In.here | apply In.there | apply In.skip); (first | (apply Rd.own; (repeat first | exact In.here | apply In.there | apply In.skip); infer_instance) | (apply Rd.old; (repeat first | exact In.here | apply In.there | apply In.skip); assumption) | (apply Rd.oldR; (repeat first | exact In.here | apply In.there | apply In.skip); assumption) | exact Rd.nil | assumption); (repeat first | exact In.here | apply In.there | apply In.skip); (repeat first | exact In.here | apply In.there | apply In.skip)); rintro _ _ ⟨hm, rfl, rfl⟩)
      | (apply G_call; eq_refl; eq_refl; (apply hnx; (repeat first | exact In.here | apply In.there | apply In.skip); (repeat first | exact In.here | apply In.there | apply In.skip); (repeat first | exact In.here | apply In.there | apply In.skip)); rintro _ _ ⟨A12, k12, rfl, rfl⟩)
      | (apply G_app; exact wr_p; eq_refl; eq_refl; (intro A c; (repeat first | exact Upd.here | apply Upd.there | apply Upd.skip)); infer_instance; (repeat first | exact In.here | apply In.there | apply In.skip); exact Dec.one (hm, momM _ _ _); eq_refl; eq_refl; eq_refl; (simp only [List.length_cons, List.length_nil]; omega); decide; intro A13 k13)
      | (apply GC_seqK; intro K hK)
      | (apply hK; clear hK K)
      | (apply GC_block)
      | (apply GC_region)
      | (apply GL_nil)
      | (apply thenG_normal)
      | (apply blockG_normal)
      | (apply GC_skip)
      | (apply GC_if_true; eq_refl)
      | (apply GL_on; eq_refl; eq_refl)
      | (apply G_pv; eq_refl; first | exact trivial | omega)
      | (apply G_rd; eq_refl; (first | (apply Rd.own; (repeat first | exact In.here | apply In.there | apply In.skip); infer_instance) | (apply Rd.old; (repeat first | exact In.here | apply In.there | apply In.skip); assumption) | (apply Rd.oldR; (repeat first | exact In.here | apply In.there | apply In.skip); assumption) | exact Rd.nil | assumption); (case ih => infer_instance); omega; omega; eq_refl)
      | (apply G_cmpT; eq_refl; eq_refl; omega)
      | (apply G_ix; eq_refl; eq_refl; (first | (apply Rd.own; (repeat first | exact In.here | apply In.there | apply In.skip); infer_instance) | (apply Rd.old; (repeat first | exact In.here | apply In.there | apply In.skip); assumption) | (apply Rd.oldR; (repeat first | exact In.here | apply In.there | apply In.skip); assumption) | exact Rd.nil | assumption); (first | eq_refl | omega); omega; omega)
      | (apply G_new (fun b => .slice (some ⟨b, 0, none⟩) 1 1); eq_refl; (intro _; apply buildS75_1 <;> eq_refl); intro _))
            refine ⟨(i + 1 + 1, (_, _, _), (_, _, _)), (by repeat first | exact trivial | refine ⟨rfl, ?_⟩), ?_, ⟨hlt, ?_, ?_, fun h => by simp at h⟩, by simp only; omega⟩
            · dsimp only
              rw [fam_snoc]
              exact (by repeat first | exact Wk.nil | exact Wk.refl | (apply Wk.cons; (focus ((repeat first | exact Rem.here | apply Rem.there | apply Rem.skip); done))) | apply Wk.nilv | apply Wk.last | apply Wk.drop)
            · dsimp only
              first | (rw [hst]; done) | (rw [hst]; rfl)
            · dsimp only
              rw [runM_succ c t (i + 1), List.map_append, hps, ← hst]
              first | done | rfl
        · obtain rfl : i = t.rows.length := by omega
          repeat' (first
      | (apply GC_seqK; intro K hK)
      | (apply hK; clear hK K)
      | (clear hK K; apply hK; clear hK K)
      | (apply GC_region)
      | (apply GL_nil)
      | (apply thenG_normal)
      | (apply thenG_exit)
      | (apply blockG_hit)
      | (apply GC_ret)
      | (apply GC_exit)
      | (apply GC_if_false; eq_refl)
      | (apply retG2; eq_refl; eq_refl)
      | (apply GL_on; eq_refl; eq_refl)
      | (apply G_pv; eq_refl; first | exact trivial | omega)
      | (apply G_cmpF; eq_refl; eq_refl; omega))
          refine ⟨_ :: fam momE ps, ?_, ps, A9, c9, by rw [runE_fit he F], by rw [e1]; exact hps, rfl⟩
          refine Wk.trans ⟨fun w M => M.right, fun k hk => owns_append.2 (.inr hk)⟩ ?_
          exact (by repeat first | exact Wk.nil | exact Wk.refl | (apply Wk.cons; (focus ((repeat first | exact Rem.here | apply Rem.there | apply Rem.skip); done))) | apply Wk.nilv | apply Wk.last | apply Wk.drop)
    · have hnF : ¬ Fit c t := fun hf => h1 ⟨hf.pos, hf.few, hf.lo, hf.hi, hf.init⟩
      have e1 : runsM c t = [] := if_neg (by rw [runE_not he hnF]; decide)
      unfold RunR
      rw [runE_not he hnF, e1]
      repeat' (first
      | (apply G_call; eq_refl; eq_refl; (apply hrd; (repeat first | exact In.here | apply In.there | apply In.skip)); rintro _ _ (⟨he', rfl, rfl⟩ | ⟨_, p1, B1, k1, rfl, rfl⟩); (exact absurd he he'))
      | (apply GC_seqK; intro K hK)
      | (apply hK; clear hK K)
      | (apply GC_region)
      | (apply GL_nil)
      | (apply thenG_normal)
      | (apply thenG_ret)
      | (apply GC_ret)
      | (apply GC_skip)
      | (apply GC_if_true; eq_refl)
      | (apply GC_if_false; eq_refl)
      | (apply retG2; eq_refl; eq_refl)
      | (apply GL_on; eq_refl; eq_refl)
      | (apply GL_off; eq_refl; eq_refl)
      | (apply G_pv; eq_refl; first | exact trivial | omega)
      | (apply G_field; eq_refl)
      | (apply G_ld; eq_refl; (repeat first | exact In.here | apply In.there | apply In.skip); eq_refl)
      | (apply G_ldW; eq_refl; (repeat first | exact In.here | apply In.there | apply In.skip); eq_refl)
      | (apply G_cmpT; eq_refl; eq_refl; omega)
      | (apply G_cmpF; eq_refl; eq_refl; omega)
      | (apply G_cmp; eq_refl; eq_refl; all_goals intro _)
      | (apply G_len; eq_refl)
      | (apply G_box; eq_refl; eq_refl; intro _))
      all_goals first
        | exact ⟨[.vec encM 4 82 none 0 []], (by repeat first | exact Wk.nil | exact Wk.refl | (apply Wk.cons; (focus ((repeat first | exact Rem.here | apply Rem.there | apply Rem.skip); done))) | apply Wk.nilv | apply Wk.last | apply Wk.drop), [], none, 0, rfl, rfl, rfl⟩
        | (exfalso; omega)
  · have e1 : runsM c t = [] := if_neg (by rw [runE_look he]; exact he)
    unfold RunR
    rw [runE_look he, e1]
    repeat' (first
      | (apply G_call; eq_refl; eq_refl; (apply hrd; (repeat first | exact In.here | apply In.there | apply In.skip)); rintro _ _ (⟨_, rfl, rfl⟩ | ⟨he', p1, B1, k1, rfl, rfl⟩); rotate_left; (exact absurd he' he))
      | (apply GC_seqK; intro K hK)
      | (apply hK; clear hK K)
      | (apply GC_region)
      | (apply GL_nil)
      | (apply thenG_normal)
      | (apply thenG_ret)
      | (apply GC_ret)
      | (apply GC_if_true; eq_refl)
      | (apply retG2; eq_refl; eq_refl)
      | (apply GL_on; eq_refl; eq_refl)
      | (apply G_pv; eq_refl; first | exact trivial | omega)
      | (apply G_ldW; eq_refl; (repeat first | exact In.here | apply In.there | apply In.skip); eq_refl)
      | (apply G_cmpT; eq_refl; eq_refl; omega)
      | (apply G_box; eq_refl; eq_refl; intro _))
    exact ⟨[.vec encM 4 82 none 0 []], (by repeat first | exact Wk.nil | exact Wk.refl | (apply Wk.cons; (focus ((repeat first | exact Rem.here | apply Rem.there | apply Rem.skip); done))) | apply Wk.nilv | apply Wk.last | apply Wk.drop), [], none, 0, rfl, rfl, rfl⟩
end SC
end Go.Proofs.Ytkndegjodnciaaa
end
section
/- trestlelaw07: works. -/
set_option linter.unusedVariables false
set_option linter.unusedSimpArgs false
namespace Go.Proofs.Ytkndegjodnciaaa
namespace SC
open Go.Proofs
def cWk : Circ := ⟨1, [], [(2, 3, 0)], [], [2], [], [], [], [], [], []⟩
theorem cWk_sizes : sizesM cWk = 0 := by
  unfold sizesM
  rw [if_neg (by simp [cWk]), if_neg]
  simp [cWk, Circ.lens, sumW, sumL]; decide
theorem cWk_defs : definesM cWk (T0 cWk) = ((0, 0), [(0, 0), (2, 0)]) := by decide
theorem cWk_tab : tabM cWk = [(0, 0), (2, 0)] := by unfold tabM; rw [cWk_defs]
theorem cWk_uses : usesM cWk (tabM cWk) = (0, 0) := by rw [cWk_tab]; decide
theorem cWk_all : All 0 (gateB (tabM cWk) cWk) [] := ⟨.nil, fun x hx => by have := hx.rg; unfold rg at this; omega⟩
theorem cWk_look : (lookM cWk).2 = 0 := by
  have hc : cycM cWk.ands.length (gateB (tabM cWk) cWk) = -1 := cycM_eq ⟨[], cWk_all, .inl ⟨rfl, rfl⟩⟩
  unfold lookM
  rw [cWk_sizes, cWk_defs, cWk_uses, hc]
  simp [cWk, goSym, goCom]
theorem cWk_ord : ordM cWk = [] := ordM_eq cWk_all
def tWk (h1 h2 : Hdl) : Trc := ⟨[false], [(h1, []), (h2, [])], -1⟩
theorem tWk_fit (h1 h2 : Hdl) : Fit cWk (tWk h1 h2) := ⟨rfl, by simp [tWk], by simp [tWk], by simp [tWk], by simp [tWk], by simp [tWk, cWk]⟩
def mWk0 : Mom := ⟨[false], true, [], []⟩
def mWk1 : Mom := ⟨[true], true, [0], []⟩
theorem cWk_runs (h1 h2 : Hdl) : runsM cWk (tWk h1 h2) = [mWk0, mWk1] := by
  unfold runsM
  rw [if_pos (runE_fit cWk_look (tWk_fit h1 h2))]
  show [momM cWk [false] (valM cWk [false] []), momM cWk (nxtM cWk (valM cWk [false] [])) (valM cWk (nxtM cWk (valM cWk [false] [])) [])] = _
  unfold valM
  rw [cWk_ord]
  rfl
theorem cWk_sane : cWk.Sane := ⟨by simp [cWk], by simp [cWk], by simp [cWk], by simp [cWk], by simp [cWk], by simp [cWk]⟩
theorem cWk_okay : cWk.Okay := ⟨by simp [cWk, Circ.lens], by simp [cWk], (by intro x hx; simp [cWk] at hx; subst hx; simp [TriFits, fit64, fits]), by simp [cWk], by simp [cWk]⟩
theorem cWk_fits : cWk.Fits := ⟨by simp [cWk], by simp [cWk], by simp [cWk], by simp [cWk], by simp [cWk], by simp [cWk], by simp [cWk], by simp [cWk], by simp [cWk], by simp [cWk], by simp [cWk]⟩
def hWk (a b : Nat) : Hd := fun | 2 => (some ⟨a, 0, none⟩, 1) | 4 => (some ⟨b, 0, none⟩, 1) | _ => (none, 0)
theorem cWk_in {w : World} {a b : Nat} (ha : Blk w a 70 [nu 2, nu 3, nu 0]) (hb : Blk w b 3 [nu 2]) : CirIn w cWk (hWk a b) hNil :=
  ⟨⟨RowA.emp, RowA.blk (l := [(2, 3, 0)]) tlen ha, RowA.emp, RowA.blk (l := [2]) ilen hb, RowA.emp, fun k hk => absurd hk (Nat.not_lt_zero _), fun k hk => absurd hk (Nat.not_lt_zero _), RowA.emp, RowA.emp, RowA.emp, RowA.emp⟩, cWk_sane, cWk_okay, cWk_fits⟩
theorem tWk_in {w : World} {a b c d : Nat} (ha : Blk w a 4 [.bool false]) (hd : Blk w d 62 [.slice (some ⟨b, 0, none⟩) 0 0, .slice (some ⟨c, 0, none⟩) 0 0]) : TrcIn w (tWk (some ⟨b, 0, none⟩, 0) (some ⟨c, 0, none⟩, 0)) (some ⟨a, 0, none⟩, 1) (some ⟨d, 0, none⟩, 2) :=
  ⟨RowA.blk (l := [false]) (fun _ => rfl) ha, RowA.blk (l := [(((some ⟨b, 0, none⟩, 0) : Hdl), ([] : List Bool)), ((some ⟨c, 0, none⟩, 0), [])]) (fun _ => rfl) hd, (fun p hp => by simp [tWk] at hp; rcases hp with rfl | rfl <;> exact RowA.emp), (fun h => by cases h), (fun h => by cases h), (fun p hp h => by simp [tWk] at hp; rcases hp with rfl | rfl <;> cases h), (by simp [tWk]), (by simp [tWk]), (fun p hp => by simp [tWk] at hp; rcases hp with rfl | rfl <;> simp), (by simp [tWk, fits])⟩
attribute [local irreducible] WC WL WX WS WO OX Does DoesU Enters CV Pure thenQ blockQ retQ Wants retQC GC GL GS GX RdB thenG blockG retG Rd At CVN CVM
set_option maxRecDepth 100000
theorem worksSim_cv {w : World} : CVN Try.prog 48 [] w fun v N => N = [] ∧ v = .bool true := by
  have hrun : ∀ Γ a b x y z u, In Γ (.box a 70 [nu 2, nu 3, nu 0]) → In Γ (.box b 3 [nu 2]) → In Γ (.box x 4 [.bool false]) → In Γ (.box u 62 [.slice (some ⟨y, 0, none⟩) 0 0, .slice (some ⟨z, 0, none⟩) 0 0]) → ∀ w', Mem w' Γ →
      CVN Try.prog 42 [.agg (ccells cWk (hWk a b)).toArray, .agg (tcs (tWk (some ⟨y, 0, none⟩, 0) (some ⟨z, 0, none⟩, 0)) (some ⟨x, 0, none⟩, 1) (some ⟨u, 0, none⟩, 2)).toArray] w' fun v N => ∃ (p q : HMom) (A : Option Addr) (k : Nat), v = .tuple #[.slice A 2 k, nu 0] ∧ N = .vec encM 4 82 A k [(p, mWk0), (q, mWk1)] :: fam momE [(p, mWk0), (q, mWk1)] := fun Γ a b x y z u h1 h2 h3 h4 w' M => by
    refine (Run_cv (cWk_in (h1.box M) (h2.box M)) (tWk_in (c := z) (h3.box M) (h4.box M))).mono ?_
    rintro v N ⟨ps, A, k, rfl, hps, rfl⟩
    rw [cWk_runs] at hps
    match ps, hps with
    | [(p, m), (q, m')], hps =>
      simp only [List.map_cons, List.map_nil, List.cons.injEq, and_true] at hps
      obtain ⟨rfl, rfl⟩ := hps
      exact ⟨p, q, A, k, by rw [runE_fit cWk_look (tWk_fit _ _)]; rfl, rfl⟩
    | [], hps => simp at hps
    | [_], hps => simp at hps
    | _ :: _ :: _ :: _, hps => simp at hps
  refine CVN.enter 63 [0] Try.func48 rfl rfl rfl (by decide) rfl ?_
  repeat' (first
      | (apply G_cmpT; eq_refl; eq_refl; (exact rfl))
      | (apply G_ix; eq_refl; eq_refl; (first | (apply Rd.own; (repeat first | exact In.here | apply In.there | apply In.skip); infer_instance) | (apply Rd.old; (repeat first | exact In.here | apply In.there | apply In.skip); assumption) | (apply Rd.oldR; (repeat first | exact In.here | apply In.there | apply In.skip); assumption) | exact Rd.nil | assumption); eq_refl; (focus simp); (exact (show (0 : Int) < ((1 : Nat) : Int) by decide)))
      | (apply G_rd; eq_refl; (first | (apply Rd.own; (repeat first | exact In.here | apply In.there | apply In.skip); infer_instance) | (apply Rd.old; (repeat first | exact In.here | apply In.there | apply In.skip); assumption) | (apply Rd.oldR; (repeat first | exact In.here | apply In.there | apply In.skip); assumption) | exact Rd.nil | assumption); (case ih => infer_instance); (focus simp); (exact (show (0 : Int) < ((1 : Nat) : Int) by decide)); eq_refl)
      | (apply G_rdF; eq_refl; (first | (apply Rd.own; (repeat first | exact In.here | apply In.there | apply In.skip); infer_instance) | (apply Rd.old; (repeat first | exact In.here | apply In.there | apply In.skip); assumption) | (apply Rd.oldR; (repeat first | exact In.here | apply In.there | apply In.skip); assumption) | exact Rd.nil | assumption); (case ih => infer_instance); (focus simp); (focus simp); eq_refl)
      | (apply G_call; eq_refl; eq_refl; (apply hrun; (repeat first | exact In.here | apply In.there | apply In.skip); (repeat first | exact In.here | apply In.there | apply In.skip); (repeat first | exact In.here | apply In.there | apply In.skip); (repeat first | exact In.here | apply In.there | apply In.skip)); rintro _ _ ⟨p, q, A, k, rfl, rfl⟩)
      | (apply GC_seqK; intro K hK)
      | (apply hK; clear hK K)
      | (apply GC_region)
      | (apply GL_nil)
      | (apply thenG_normal)
      | (apply GC_ret)
      | (apply retG1; eq_refl)
      | (apply GL_on; eq_refl; eq_refl)
      | (apply G_pv; eq_refl; first | exact trivial | omega)
      | (apply G_fieldP; eq_refl)
      | (apply G_ldW; eq_refl; (repeat first | exact In.here | apply In.there | apply In.skip); eq_refl)
      | (apply G_len; eq_refl)
      | (apply G_ix; eq_refl; eq_refl; (first | (apply Rd.own; (repeat first | exact In.here | apply In.there | apply In.skip); infer_instance) | (apply Rd.old; (repeat first | exact In.here | apply In.there | apply In.skip); assumption) | (apply Rd.oldR; (repeat first | exact In.here | apply In.there | apply In.skip); assumption) | exact Rd.nil | assumption); (first | eq_refl | omega); omega; omega)
      | (apply G_alloc; eq_refl; intro _)
      | (apply G_stW; (first | exact wr_p | kernel_rfl); eq_refl; eq_refl; eq_refl; eq_refl; (repeat first | exact Upd.here | apply Upd.there | apply Upd.skip); eq_refl)
      | (apply GX_pure; apply build70_0_1 <;> eq_refl)
      | (apply GX_pure; apply build51_0_2_4 <;> eq_refl)
      | (apply GX_pure; apply build73_0_1_2 <;> eq_refl)
      | (apply G_new (fun b => .slice (some ⟨b, 0, none⟩) 1 1); eq_refl; (intro _; apply buildS46_1 <;> eq_refl); intro _)
      | (apply G_new (fun b => .slice (some ⟨b, 0, none⟩) 1 1); eq_refl; (intro _; apply buildS45_1 <;> eq_refl); intro _)
      | (apply G_new (fun b => .slice (some ⟨b, 0, none⟩) 1 1); eq_refl; (intro _; apply buildS62_1 <;> eq_refl); intro _)
      | (apply G_new (fun b => .slice (some ⟨b, 0, none⟩) 0 0); eq_refl; (intro _; apply buildS62_0); intro _)
      | (apply G_new (fun b => .slice (some ⟨b, 0, none⟩) 2 2); eq_refl; (intro _; apply buildS71_2 <;> eq_refl); intro _))
  exact ⟨[], (by repeat first | exact Wk.nil | exact Wk.refl | (apply Wk.cons; (focus ((repeat first | exact Rem.here | apply Rem.there | apply Rem.skip); done))) | apply Wk.nilv | apply Wk.last | apply Wk.drop), rfl, rfl⟩
end SC
end Go.Proofs.Ytkndegjodnciaaa
end
section
/- ShapeChecks: the walk. -/
set_option linter.unusedVariables false
set_option linter.unusedSimpArgs false
namespace Go.Proofs.Ytkndegjodnciaaa
namespace SC
open Go.Proofs
attribute [local irreducible] WC WL WX WS WO OX Does DoesU Enters CV Pure thenQ blockQ retQ Wants retQC
set_option maxRecDepth 100000
end SC
end Go.Proofs.Ytkndegjodnciaaa
end
section
/- trestlelaw07: SimStarts, SimSteps: the walks. -/
set_option linter.unusedVariables false
set_option linter.unusedSimpArgs false
namespace Go.Proofs.Ytkndegjodnciaaa
namespace SC
open Go.Proofs
/-- A lent circuit, as an entry. -/
def lentX (base : Nat) (c : Circ) (h js : Hd) : EntX where
  own := fun k => ∃ i, (lentRow c h js i).v.ownBlock = some k
  ok := fun w => CirLent w base c h js
  lt := fun w H k ⟨i, hi⟩ => (World.ownsRow.lt (H i) k hi).2
  keep := fun w w' S H hc hn => fun i => own_chg (H i) hc fun k hk => hn k ⟨i, hk⟩
def LendR (c : Circ) (v : Value) (N : Mm) : Prop := ∃ base h' js', v = .agg (ccells c h').toArray ∧ N = [.any (lentX base c h' js')]
/-- What comes in: a circuit, with its reach. -/
structure CirGot (w : World) (c : Circ) (h js : Hd) : Prop extends CirIn w c h js where
  fits1 : c.Fits1
  nils : Nils h js
theorem CirGot.chg {w w' : World} {c : Circ} {h js : Hd} (H : CirGot w c h js) (hc : Chg w w' none_) : CirGot w' c h js := ⟨H.toCirIn.chg hc, H.fits1, H.nils⟩
theorem In.lent {Γ : Mm} {w w0 : World} {base : Nat} {c : Circ} {h js h' js' : Hd} (H : CirIn w0 c h js) (hi : In Γ (.any (lentX base c h' js'))) (M : Mem w Γ) : CirIn w c h' js' := ⟨CirLent.at (hi.ok M), H.sane, H.okay, H.fits⟩
attribute [local irreducible] WC WL WX WS WO OX Does DoesU Enters CV Pure thenQ blockQ retQ Wants retQC GC GL GS GX RdB thenG blockG retG Rd At gt CVN CVM
set_option maxRecDepth 100000
end SC
end Go.Proofs.Ytkndegjodnciaaa
end
section
/- trestlelaw07: SimSteps: the walk. -/
set_option linter.unusedVariables false
set_option linter.unusedSimpArgs false
namespace Go.Proofs.Ytkndegjodnciaaa
namespace SC
open Go.Proofs
attribute [local irreducible] WC WL WX WS WO OX Does DoesU Enters CV Pure thenQ blockQ retQ Wants retQC GC GL GS GX RdB thenG blockG retG Rd At gt CVN CVM
set_option maxRecDepth 100000
end SC
end Go.Proofs.Ytkndegjodnciaaa
end
section
/- Lists of bools that come in. -/
set_option linter.unusedVariables false
set_option linter.unusedSimpArgs false
namespace Go.Proofs.Ytkndegjodnciaaa
namespace SC
open Go.Proofs
set_option maxRecDepth 100000
section
variable {H : Type} {enc : TypeId × Value → H} {W : World} {base : Nat} {spare : Nat → Bool} {held : Bool}
theorem bytes4 : Try.prog.bytesOf 4 = 1 := by kernel_rfl
theorem openBoolS {fuel : Nat} {cs : List Value} {x : DataW H × List MemPlace} (h : DataW.trod enc Try.prog W base spare held fuel 4 cs = some x) : ∃ a, booc a = cs ∧ True := by
  obtain ⟨b, h1, h2⟩ := DataW.trod_bool Try.underlying4 h
  exact ⟨b, h1.symm, trivial⟩
/-- A list of bools that comes in. -/
theorem openBoolsF {fuel : Nat} {cs : List Value} {x : DataW H × List MemPlace} (h : DataW.trod enc Try.prog W base spare held fuel 62 cs = some x) : ∃ (A : Option Addr) (cp : Nat) (l : List Bool), cs = [.slice A l.length cp] ∧ RowA W booc 1 A l ∧ (A = none → cp = 0) ∧ (∀ R, (∀ n ∈ x.1.weights Try.prog 62, n ≤ R) → l.length ≤ R) := by
  obtain ⟨A, cp, l, e, r, _, _, z, w⟩ := openRowS booc (fun _ _ => True) Try.underlying62 (by kernel_rfl) (fun _ => rfl) (fun _ _ _ h => openBoolS h) h
  refine ⟨A, cp, l, e, r, z, fun R hR => ?_⟩
  have := w R hR
  rw [bytes4] at this
  omega
end
end SC
end Go.Proofs.Ytkndegjodnciaaa
end
section
/- What is so of the values of a right circuit; trestlelaw07: lit. -/
set_option linter.unusedVariables false
set_option linter.unusedSimpArgs false
namespace Go.Proofs.Ytkndegjodnciaaa
namespace SC
open Go.Proofs
/-! ### a list that is written from the left -/
section
variable {g : Nat → Nat} {h : List Bool → Nat → Bool} {v : List Bool}
def wrF (g : Nat → Nat) (h : List Bool → Nat → Bool) (v : List Bool) (i : Nat) : List Bool := (List.range i).foldl (fun v k => v.set (g k) (h v k)) v
theorem wrF_succ (i : Nat) : wrF g h v (i + 1) = (wrF g h v i).set (g i) (h (wrF g h v i) i) := by unfold wrF; rw [fold_snoc]
theorem wrF_len (i : Nat) : (wrF g h v i).length = v.length := by unfold wrF; rw [fold_len]
theorem wrF_off {x : Nat} {j : Nat} : ∀ (i : Nat), j ≤ i → (∀ k, j ≤ k → k < i → g k ≠ x) → (wrF g h v i).getD x false = (wrF g h v j).getD x false
  | 0, hj, _ => by obtain rfl : j = 0 := by omega
                   rfl
  | i + 1, hj, hn => by
    rcases Nat.lt_or_ge i j with hlt | hge
    · obtain rfl : j = i + 1 := by omega
      rfl
    · rw [wrF_succ, ← wrF_off i hge fun k h1 h2 => hn k h1 (by omega)]
      have := hn i hge (by omega)
      simp [List.getD, List.getElem?_set, this]
theorem wrF_at {i j : Nat} (hj : j < i) (hn : ∀ k, j < k → k < i → g k ≠ g j) (hl : g j < v.length) : (wrF g h v i).getD (g j) false = h (wrF g h v j) j := by
  rw [wrF_off (j := j + 1) i hj fun k h1 h2 => hn k h1 h2, wrF_succ]
  simp [List.getD, List.getElem?_set, wrF_len, hl]
end
theorem nodup_ix {l : List Int} (h : l.Nodup) {a b : Nat} (ha : a < l.length) (hb : b < l.length) (e : l[a] = l[b]) : a = b := by
  have hp := List.pairwise_iff_getElem.1 h
  rcases Nat.lt_trichotomy a b with h1 | h1 | h1
  · exact absurd e (hp a b ha hb h1)
  · exact h1
  · exact absurd e.symm (hp b a hb ha h1)
theorem gtB (v : List Bool) (i : Int) : gt v i = v.getD i.toNat false := rfl
/-- What the values are. -/
structure ValOk (c : Circ) (s r v : List Bool) : Prop where
  len : v.length = (c.max + 1).toNat
  zero : gt v 0 = false
  inp : ∀ i : Nat, i < c.inputs.length → gt v (gt c.inputs (i : Int) / 2) = gt r (i : Int)
  lat : ∀ i : Nat, i < c.latches.length → gt v ((gt c.latches (i : Int)).1 / 2) = gt s (i : Int)
  and : ∀ i : Nat, i < c.ands.length → gt v ((gt c.ands (i : Int)).1 / 2) = (lv v (gt c.ands (i : Int)).2.1 && lv v (gt c.ands (i : Int)).2.2)
theorem Right.ordAll {c : Circ} (R : Right c) {i : Nat} (hi : i < c.ands.length) : (i : Int) ∈ ordM c := Classical.byContradiction fun hn => by
  have h1 := nodup_size c.ands.length ((i : Int) :: ordM c) (List.nodup_cons.2 ⟨hn, R.all.told.nodup⟩) fun y hy => by
    rcases List.mem_cons.1 hy with rfl | hy
    · exact ⟨by omega, by omega⟩
    · exact R.all.told.all y hy
  have := R.ordLen
  simp only [List.length_cons] at h1
  omega
theorem val_ok {c : Circ} (R : Right c) (s r : List Bool) : ValOk c s r (valM c s r) := by
  have m0 := R.m0
  have hT := R.tab
  generalize htab : tabM c = t at *
  -- where they lie
  have kI : ∀ k : Nat, k < c.inputs.length → t[(gt c.inputs (k : Int) / 2).toNat]? = some (1, (k : Int)) ∧ (gt c.inputs (k : Int) / 2).toNat ≠ 0 := fun k hk => by
    have := (hT.inp k hk).2
    have h2 := R.inp (List.getElem_mem hk)
    rw [gt_nat hk]
    exact ⟨this, by unfold defR at h2; omega⟩
  have kL : ∀ k : Nat, k < c.latches.length → t[((gt c.latches (k : Int)).1 / 2).toNat]? = some (2, (k : Int)) ∧ ((gt c.latches (k : Int)).1 / 2).toNat ≠ 0 := fun k hk => by
    have := (hT.lat k hk).2.1
    have h2 := (R.lat (List.getElem_mem hk)).1
    rw [gt_nat hk]
    exact ⟨this, by unfold defR at h2; omega⟩
  have kG : ∀ k : Nat, k < c.ands.length → t[((gt c.ands (k : Int)).1 / 2).toNat]? = some (3, (k : Int)) ∧ ((gt c.ands (k : Int)).1 / 2).toNat ≠ 0 := fun k hk => by
    have := (hT.gat k hk).2
    have h2 := (R.gate (List.getElem_mem hk)).1
    rw [gt_nat hk]
    exact ⟨this, by unfold defR at h2; omega⟩
  have kA : ∀ k : Nat, k < (ordM c).length → t[((gt c.ands (gt (ordM c) (k : Int))).1 / 2).toNat]? = some (3, gt (ordM c) (k : Int)) ∧ ((gt c.ands (gt (ordM c) (k : Int))).1 / 2).toNat ≠ 0 := fun k hk => by
    have ho := R.ord (gt_mem (l := ordM c) (i := (k : Int)) (by omega) (by omega))
    have := kG (gt (ordM c) (k : Int)).toNat (by omega)
    rwa [show (((gt (ordM c) (k : Int)).toNat : Nat) : Int) = gt (ordM c) (k : Int) by omega] at this
  have hlen : t.length = (c.max + 1).toNat := by have := hT.len; omega
  have lt_of : ∀ {x : Nat} {m : Int × Int}, t[x]? = some m → x < (c.max + 1).toNat := fun h => by rw [← hlen]; exact (List.getElem?_eq_some_iff.1 h).1
  have inj : ∀ {a b : Nat}, a < (ordM c).length → b < (ordM c).length → gt (ordM c) (a : Int) = gt (ordM c) (b : Int) → a = b := fun {a b} ha hb e => by
    rw [gt_nat ha, gt_nat hb] at e
    exact nodup_ix R.all.told.nodup ha hb e
  -- the three walks
  let gI : Nat → Nat := fun k => (gt c.inputs (k : Int) / 2).toNat
  let gL : Nat → Nat := fun k => ((gt c.latches (k : Int)).1 / 2).toNat
  let gA : Nat → Nat := fun k => ((gt c.ands (gt (ordM c) (k : Int))).1 / 2).toNat
  let hA : List Bool → Nat → Bool := fun v k => lv v (gt c.ands (gt (ordM c) (k : Int))).2.1 && lv v (gt c.ands (gt (ordM c) (k : Int))).2.2
  have eI : vIn c r c.inputs.length = wrF gI (fun _ k => gt r (k : Int)) (List.replicate (c.max + 1).toNat false) c.inputs.length := rfl
  have eL : ∀ v, vLt c s v c.latches.length = wrF gL (fun _ k => gt s (k : Int)) v c.latches.length := fun _ => rfl
  have eA : ∀ v i, vAn c (ordM c) v i = wrF gA hA v i := fun _ _ => rfl
  have lI := vIn_len c r c.inputs.length
  have lL := vLt_len c s (vIn c r c.inputs.length) c.latches.length
  rw [lI] at lL
  have e0 : valM c s r = wrF gA hA (vLt c s (vIn c r c.inputs.length) c.latches.length) (ordM c).length := eA _ _
  -- what no gate writes
  have notA : ∀ x : Nat, (∀ k, k < (ordM c).length → gA k ≠ x) → (valM c s r).getD x false = (vLt c s (vIn c r c.inputs.length) c.latches.length).getD x false := fun x hx => by
    rw [e0, wrF_off (j := 0) _ (Nat.zero_le _) fun k _ hk => hx k hk]
    rfl
  have notL : ∀ x : Nat, (∀ k, k < c.latches.length → gL k ≠ x) → (vLt c s (vIn c r c.inputs.length) c.latches.length).getD x false = (vIn c r c.inputs.length).getD x false := fun x hx => by
    rw [eL, wrF_off (j := 0) _ (Nat.zero_le _) fun k _ hk => hx k hk]
    rfl
  refine ⟨valM_len c s r, ?_, fun i hi => ?_, fun i hi => ?_, fun i hi => ?_⟩
  · show (valM c s r).getD 0 false = false
    rw [notA _ fun k hk => (kA k hk).2, notL _ fun k hk => (kL k hk).2, eI, wrF_off (j := 0) _ (Nat.zero_le _) fun k _ hk => (kI k hk).2]
    show (List.replicate (c.max + 1).toNat false).getD 0 false = false
    cases hq : (c.max + 1).toNat <;> rfl
  · obtain ⟨k1, k2⟩ := kI i hi
    rw [gtB, notA _ fun k hk e => (by have := (kA k hk).1; rw [show ((gt c.ands (gt (ordM c) (k : Int))).1 / 2).toNat = (gt c.inputs (i : Int) / 2).toNat from e, k1] at this; simp at this),
      notL _ fun k hk e => (by have := (kL k hk).1; rw [show ((gt c.latches (k : Int)).1 / 2).toNat = (gt c.inputs (i : Int) / 2).toNat from e, k1] at this; simp at this), eI]
    refine wrF_at (g := gI) hi (fun k h1 h2 e => ?_) (by rw [List.length_replicate]; exact lt_of k1)
    have := (kI k h2).1
    rw [show (gt c.inputs (k : Int) / 2).toNat = (gt c.inputs (i : Int) / 2).toNat from e, k1] at this
    simp at this
    omega
  · obtain ⟨k1, k2⟩ := kL i hi
    rw [gtB, notA _ fun k hk e => (by have := (kA k hk).1; rw [show ((gt c.ands (gt (ordM c) (k : Int))).1 / 2).toNat = ((gt c.latches (i : Int)).1 / 2).toNat from e, k1] at this; simp at this), eL]
    refine wrF_at (g := gL) hi (fun k h1 h2 e => ?_) (by rw [lI]; exact lt_of k1)
    have := (kL k h2).1
    rw [show ((gt c.latches (k : Int)).1 / 2).toNat = ((gt c.latches (i : Int)).1 / 2).toNat from e, k1] at this
    simp at this
    omega
  · have hm := R.ordAll hi
    obtain ⟨j, hj, ej⟩ := List.mem_iff_getElem.1 hm
    have ej' : gt (ordM c) (j : Int) = (i : Int) := by rw [gt_nat hj]; exact ej
    have eg : gA j = ((gt c.ands (i : Int)).1 / 2).toNat := by show ((gt c.ands (gt (ordM c) (j : Int))).1 / 2).toNat = _; rw [ej']
    have hsp : ordM c = (ordM c).take j ++ (i : Int) :: (ordM c).drop (j + 1) := by
      rw [← ej]
      have h1 := List.take_append_drop j (ordM c)
      rw [List.drop_eq_getElem_cons hj] at h1
      exact h1.symm
    have hlow := (R.all.told.split hsp).1.low
    -- a literal of the gate's: nothing behind writes it
    have late : ∀ l : Int, l = (gt c.ands (i : Int)).2.1 ∨ l = (gt c.ands (i : Int)).2.2 → lv (valM c s r) l = lv (wrF gA hA (vLt c s (vIn c r c.inputs.length) c.latches.length) j) l := fun l hl => by
      unfold lv
      congr 1
      rw [gtB, gtB, e0]
      refine wrF_off (j := j) _ (by omega) fun k h1 h2 e => ?_
      have h3 := (kA k h2).1
      rw [show ((gt c.ands (gt (ordM c) (k : Int))).1 / 2).toNat = (l / 2).toNat from e] at h3
      have hb : gt (ordM c) (k : Int) ∈ gateB (tabM c) c (i : Int) := by
        rw [gateB_at _ c hi, htab]
        unfold belowM
        rw [mem_belowL]
        refine ⟨l, ?_, kindAt_get h3, atOf_get h3⟩
        rw [gt_nat hi] at hl
        rcases hl with rfl | rfl <;> simp
      have h4 := hlow _ hb
      obtain ⟨k', hk', ek⟩ := List.mem_iff_getElem.1 h4
      rw [List.length_take] at hk'
      rw [List.getElem_take] at ek
      have := inj (a := k') (b := k) (by omega) h2 (by rw [gt_nat (l := ordM c) (i := k') (by omega)]; exact ek)
      omega
    rw [gtB, ← eg, late _ (.inl rfl), late _ (.inr rfl), e0, wrF_at (g := gA) hj (fun k h1 h2 e => ?_) (by rw [lL]; exact lt_of (kA j hj).1)]
    · show (lv _ (gt c.ands (gt (ordM c) (j : Int))).2.1 && lv _ (gt c.ands (gt (ordM c) (j : Int))).2.2) = _
      rw [ej']
    · have h3 := (kA k h2).1
      have h4 := (kA j hj).1
      rw [show ((gt c.ands (gt (ordM c) (k : Int))).1 / 2).toNat = ((gt c.ands (gt (ordM c) (j : Int))).1 / 2).toNat from e, h4] at h3
      simp at h3
      have := inj hj h2 h3
      omega
attribute [local irreducible] WC WL WX WS WO OX Does DoesU Enters CV Pure thenQ blockQ retQ Wants retQC GC GL GS GX RdB thenG blockG retG Rd At gt CVN CVM
set_option maxRecDepth 100000
end SC
end Go.Proofs.Ytkndegjodnciaaa
end
section
/- trestlelaw07: SimGates: the walk. -/
set_option linter.unusedVariables false
set_option linter.unusedSimpArgs false
namespace Go.Proofs.Ytkndegjodnciaaa
namespace SC
open Go.Proofs
attribute [local irreducible] WC WL WX WS WO OX Does DoesU Enters CV Pure thenQ blockQ retQ Wants retQC GC GL GS GX RdB thenG blockG retG Rd At gt CVN CVM
set_option maxRecDepth 100000
end SC
end Go.Proofs.Ytkndegjodnciaaa
end
section
/- trestlebook: SameInts, SpoilInts, SameTrace; trestlelaw07: same. -/
set_option linter.unusedVariables false
set_option linter.unusedSimpArgs false
namespace Go.Proofs.Ytkndegjodnciaaa
namespace SC
open Go.Proofs Go.Maps
set_option maxRecDepth 100000
theorem sameIntsG {w : World} {A B : Option Addr} {c d : Nat} {l : List Int} (R : RowA w icell 1 A l) (R' : RowA w icell 1 B l) (hl : l.length ≤ 9223372036854775807) : CVN Try.prog 28 [.slice A l.length c, .slice B l.length d] w fun v N => N = [] ∧ v = .bool true :=
  CVN.of (sameInts_cv R R' hl hl) fun v w' h => ⟨h.2, by rw [h.1, decide_eq_true rfl]⟩
/-! ### spots -/
theorem wide138 : (match Try.prog.underlying 138 with | some (.array _ _) | some (.struct _) => true | _ => false) = true := by rw [Try.underlying138]
theorem formed138 {a b : Value} : (Value.agg #[a, b]).formed Try.prog 138 = true := by
  have : Try.prog.cellsOf 138 = 2 := by kernel_rfl
  simp [Value.formed, Try.underlying138, this]
theorem key138 {a b : Int} (ha : fits a) (hb : fits b) : keyOf Try.prog 138 (.agg #[.int .i64 a, .int .i64 b]) = some (.string (keyBytes [.int .i64 a, .int .i64 b])) := by
  have h1 : Try.prog.keyType 138 = true := by kernel_rfl
  have h2 : Try.prog.cellsOf 138 = 2 := by kernel_rfl
  have h3 : Try.prog.cellsOf 3 = 1 := by kernel_rfl
  have h4 : ∃ k, Try.prog.types.size = k + 1 := ⟨Try.prog.types.size - 1, by have : 0 < Try.prog.types.size := of_decide_eq_true (by kernel_rfl); omega⟩
  obtain ⟨k, hk⟩ := h4
  unfold keyOf
  rw [Try.underlying138]
  simp only [h1, formed138, Bool.and_self, if_true]
  rw [hk]
  simp [Program.keyLits, Try.underlying138, Try.underlying3, h2, h3, Value.cells, wf_of_fits ha, wf_of_fits hb]
theorem run_same138 {a b : Int} (ha : fits a) (hb : fits b) (w : World) : ∃ r, (Op.equal 138 (.agg #[.int .i64 a, .int .i64 b]) (.agg #[.int .i64 a, .int .i64 b])).run Try.prog w = .ok r w ∧ (r = true ↔ True) := by
  obtain ⟨r, h2, h3⟩ := run_equal_deep (P := Try.prog) w (m := 2) (by decide) (k := 138) (by kernel_rfl) wide138 (key138 ha hb) (key138 ha hb)
  exact ⟨r, h2, h3.trans ⟨fun _ => trivial, fun _ => rfl⟩⟩
theorem G_neqSp {n : Nat} {all : List Oper} {K : Env → Mm → Prop} {m : Md} {e : Env} {Γ : Mm} {d : Option Tmp} {ty : TypeId} {x y : Operand} {p : Int × Int} (h : ev e x = some (.agg (spotc p).toArray)) (h1 : ev e y = some (.agg (spotc p).toArray)) (hf : fits p.1 ∧ fits p.2) (hr : GN Try.prog n all K m (push d (.bool false) e) Γ) :
    GX Try.prog n all K m d (.binOp .neq 138 x y 138) ty e Γ :=
  GX_pure ((p_neqV (C := True) (by kernel_rfl) (run_same138 hf.1 hf.2) h h1).2 trivial) hr
/-! ### traces -/
structure TrcEq (t t' : Trc) : Prop where
  init : t.init = t'.init
  loop : t.loop = t'.loop
  rows : t.rows.map (·.2) = t'.rows.map (·.2)
theorem gt_snd {α β γ : Type} [Inhabited α] [Inhabited β] [Inhabited γ] {ps : List (α × β)} {qs : List (γ × β)} (h : ps.map (·.2) = qs.map (·.2)) {i : Nat} (hi : i < ps.length) : (gt ps (i : Int)).2 = (gt qs (i : Int)).2 := by
  have hl := congrArg List.length h
  simp only [List.length_map] at hl
  rw [gt_nat hi, gt_nat (by omega)]
  have := congrArg (fun l => l[i]?) h
  simp only [List.getElem?_map, List.getElem?_eq_getElem hi, List.getElem?_eq_getElem (show i < qs.length by omega), Option.map_some, Option.some.injEq] at this
  exact this
/-! ### the moments of a run, in memory -/
structure MomsIn (w : World) (A : Option Addr) (ps : List (HMom × Mom)) : Prop where
  row : RowA w encM 4 A ps
  st : ∀ p ∈ ps, RowA w booc 1 p.1.1.1 p.2.state
  bd : ∀ p ∈ ps, RowA w icell 1 p.1.2.1.1 p.2.bads
  fr : ∀ p ∈ ps, RowA w spotc 2 p.1.2.2.1 p.2.fair
  len : ps.length ≤ 9223372036854775807
  le : ∀ p ∈ ps, p.2.state.length ≤ 9223372036854775807 ∧ p.2.bads.length ≤ 9223372036854775807 ∧ p.2.fair.length ≤ 9223372036854775807
theorem vec_len {α : Type} {enc : α → List Value} {sz : Nat} {w : World} {t : TypeId} {A : Option Addr} {c : Nat} {l : List α} (h : w.ownsRow 0 t sz (.slice A l.length c) l.length (l.flatMap enc)) : l.length ≤ 9223372036854775807 := by
  rcases h.2 with ⟨_, h2⟩ | ⟨g, cap, cur, _, _, _, hc, hm, _⟩
  · omega
  · simp only [maxLen] at hm
    omega
theorem MomsIn.of {Γ : Mm} {w : World} {A : Option Addr} {k : Nat} {ps : List (HMom × Mom)} (hi : In Γ (.vec encM 4 82 A k ps)) (hf : ∀ E ∈ fam momE ps, In Γ E) (M : Mem w Γ) : MomsIn w A ps := by
  have h1 : ∀ p ∈ ps, In Γ (.vec booc 1 4 p.1.1.1 p.1.1.2 p.2.state) := fun p hp => hf _ (fam_mem hp (by unfold momE; simp))
  have h2 : ∀ p ∈ ps, In Γ (.vec icell 1 3 p.1.2.1.1 p.1.2.1.2 p.2.bads) := fun p hp => hf _ (fam_mem hp (by unfold momE; simp))
  have h3 : ∀ p ∈ ps, In Γ (.vec spotc 2 138 p.1.2.2.1 p.1.2.2.2 p.2.fair) := fun p hp => hf _ (fam_mem hp (by unfold momE; simp))
  exact ⟨hi.row M, fun p hp => (h1 p hp).row M, fun p hp => (h2 p hp).row M, fun p hp => (h3 p hp).row M, vec_len (hi.ok M), fun p hp => ⟨vec_len ((h1 p hp).ok M), vec_len ((h2 p hp).ok M), vec_len ((h3 p hp).ok M)⟩⟩
attribute [local irreducible] WC WL WX WS WO OX Does DoesU Enters CV Pure thenQ blockQ retQ Wants retQC GC GL GS GX RdB thenG blockG retG Rd At gt CVN CVM
theorem same_cv {w : World} {A B : Option Addr} {k k2 : Nat} {ps qs : List (HMom × Mom)} (H : MomsIn w A ps) (H' : MomsIn w B qs) (E : ps.map (·.2) = qs.map (·.2)) (hf : ∀ p ∈ ps, ∀ x ∈ p.2.fair, fits x.1 ∧ fits x.2) : CVN Try.prog 44 [.slice A ps.length k, .slice B qs.length k2] w fun v N => N = [] ∧ v = .bool true := by
  have e3 := congrArg List.length E
  simp only [List.length_map] at e3
  have hR := H.row
  have hR' := H'.row
  have hlr := H.len
  refine CVN.enter 99 [4] Try.func44 rfl rfl rfl (by decide) rfl ?_
  repeat' (first
      | (apply GC_seqK; intro K hK)
      | (apply hK; clear hK K)
      | (apply GC_block)
      | (apply GC_region)
      | (apply GL_nil)
      | (apply thenG_normal)
      | (apply GC_skip)
      | (apply GC_if_false; eq_refl)
      | (apply GL_on; eq_refl; eq_refl)
      | (apply G_pv; eq_refl; first | exact trivial | omega)
      | (apply G_cmpF; eq_refl; eq_refl; omega)
      | (apply G_len; eq_refl))
  refine GC_loopK [0, 1] (fun i : Nat => [(5, nu i)]) (fun _ => [.old w none_]) (fun i => i ≤ ps.length) (fun i => ps.length - i) 0 (by repeat first | exact Pick.nil | (apply Pick.cons; eq_refl)) (by repeat first | exact trivial | refine ⟨rfl, ?_⟩) (by repeat first | exact Wk.nil | exact Wk.refl | (apply Wk.cons; (focus ((repeat first | exact Rem.here | apply Rem.there | apply Rem.skip); done))) | apply Wk.nilv | apply Wk.last | apply Wk.drop) (Nat.zero_le _) ?_
  intro i hi
  rcases Nat.lt_or_ge i ps.length with hlt | hge
  · have hm := gt_mem (l := ps) (i := (i : Int)) (by omega) (by omega)
    have hm' := gt_mem (l := qs) (i := (i : Int)) (by omega) (by omega)
    have es := gt_snd E hlt
    have s1 := H.st _ hm
    have s2 := H'.st _ hm'
    have b1 := H.bd _ hm
    have b2 := H'.bd _ hm'
    have f1 := H.fr _ hm
    have f2 := H'.fr _ hm'
    obtain ⟨l1, l2, l3⟩ := H.le _ hm
    have hft := hf _ hm
    clear hm hm'
    generalize hx : gt ps (i : Int) = x at *
    generalize hy : gt qs (i : Int) = y at *
    obtain ⟨x1, m⟩ := x
    obtain ⟨y1, m'⟩ := y
    simp only at es s1 s2 b1 b2 f1 f2 l1 l2 l3 hft
    subst es
    obtain ⟨st, ho, bd, fr⟩ := m
    simp only at s1 s2 b1 b2 f1 f2 l1 l2 l3 hft
    have hb0 : ∀ Γ, In Γ (.old w none_) → ∀ w', Mem w' Γ → CVN Try.prog 46 [.slice x1.1.1 st.length x1.1.2, .slice y1.1.1 st.length y1.1.2] w' fun v N => N = [] ∧ v = .bool true := fun Γ hi w' M => (sameBools_cv (s1.chg (hi.old M)) (s2.chg (hi.old M)) (by omega) (by omega)).mono fun v N ⟨e1', e2'⟩ => ⟨e1', by rw [e2', decide_eq_true rfl]⟩
    have hb1 : ∀ Γ, In Γ (.old w none_) → ∀ w', Mem w' Γ → CVN Try.prog 28 [.slice x1.2.1.1 bd.length x1.2.1.2, .slice y1.2.1.1 bd.length y1.2.1.2] w' fun v N => N = [] ∧ v = .bool true := fun Γ hi w' M => sameIntsG (b1.chg (hi.old M)) (b2.chg (hi.old M)) (by omega)
    cases ho
    all_goals
      repeat' (first
      | (apply G_call; eq_refl; eq_refl; (apply hb0; (repeat first | exact In.here | apply In.there | apply In.skip)); rintro _ _ ⟨rfl, rfl⟩)
      | (apply G_call; eq_refl; eq_refl; (apply hb1; (repeat first | exact In.here | apply In.there | apply In.skip)); rintro _ _ ⟨rfl, rfl⟩)
      | (apply G_rdF; eq_refl; (apply Rd.old; (repeat first | exact In.here | apply In.there | apply In.skip); assumption); (case ih => infer_instance); omega; omega; (first | (rw [hx]; dsimp only [encM]; eq_refl) | (rw [hy]; dsimp only [encM]; eq_refl)))
      | (apply GC_seqK; intro K hK)
      | (apply hK; clear hK K)
      | (apply GC_block)
      | (apply GC_region)
      | (apply GL_nil)
      | (apply thenG_normal)
      | (apply GC_skip)
      | (apply GC_if_true; eq_refl)
      | (apply GC_if_false; eq_refl)
      | (apply GL_on; eq_refl; eq_refl)
      | (refine GC_draws (id := 6) [.q 0, .q 1, .q 2, .q 3, .q 4, .q 5, .q 6, .q 7, .q 8, .q 9, .c 10, .q 11, .q 12, .q 13, .q 14, .q 15, .q 16, .q 17, .q 18, .q 19, .q 20, .q 21, .q 22, .q 23, .q 24, .q 25, .q 26, .q 27, .q 28, .q 29, .q 30, .q 31, .q 32, .q 33, .q 34, .q 35, .c 36, .q 37, .q 38, .q 39, .q 40, .q 41, .q 42, .q 43, .q 44, .q 45, .q 46, .q 47, .q 48, .q 49, .q 50, .q 51, .q 52, .q 53] mixed (by kernel_rfl) (by kernel_rfl) ?_)
      | (apply GS_nil)
      | (apply GS_qon; eq_refl; eq_refl; eq_refl; eq_refl)
      | (apply GS_con; eq_refl; eq_refl; eq_refl; eq_refl)
      | (apply G_pv; eq_refl; first | exact trivial | omega)
      | (apply G_fieldP; eq_refl)
      | (apply G_cmpT; eq_refl; eq_refl; omega)
      | (apply G_cmpF; eq_refl; eq_refl; omega)
      | (apply G_len; eq_refl)
      | (apply G_ix; eq_refl; eq_refl; (first | (apply Rd.own; (repeat first | exact In.here | apply In.there | apply In.skip); infer_instance) | (apply Rd.old; (repeat first | exact In.here | apply In.there | apply In.skip); assumption) | (apply Rd.oldR; (repeat first | exact In.here | apply In.there | apply In.skip); assumption) | exact Rd.nil | assumption); (first | eq_refl | omega); omega; omega)
      | (apply G_neqB; eq_refl; eq_refl))
      refine GC_loopK [0, 1, 5] (fun j : Nat => [(6, nu j)]) (fun _ => [.old w none_]) (fun j => j ≤ fr.length) (fun j => fr.length - j) 0 (by repeat first | exact Pick.nil | (apply Pick.cons; eq_refl)) (by repeat first | exact trivial | refine ⟨rfl, ?_⟩) (by repeat first | exact Wk.nil | exact Wk.refl | (apply Wk.cons; (focus ((repeat first | exact Rem.here | apply Rem.there | apply Rem.skip); done))) | apply Wk.nilv | apply Wk.last | apply Wk.drop) (Nat.zero_le _) ?_
      intro j hj
      rcases Nat.lt_or_ge j fr.length with hltj | hgej
      · have hfj := hft _ (gt_mem (l := fr) (i := (j : Int)) (by omega) (by omega))
        repeat' (first
      | (apply G_rdF; eq_refl; (apply Rd.old; (repeat first | exact In.here | apply In.there | apply In.skip); assumption); (case ih => infer_instance); omega; omega; (first | (rw [hx]; dsimp only [encM]; eq_refl) | (rw [hy]; dsimp only [encM]; eq_refl)))
      | (apply G_neqSp; eq_refl; eq_refl; exact hfj)
      | (apply GC_seqK; intro K hK)
      | (apply hK; clear hK K)
      | (apply GC_block)
      | (apply GC_region)
      | (apply GL_nil)
      | (apply thenG_normal)
      | (apply blockG_normal)
      | (apply GC_skip)
      | (apply GC_if_true; eq_refl)
      | (apply GC_if_false; eq_refl)
      | (apply GL_on; eq_refl; eq_refl)
      | (refine GC_draws (id := 11) [.q 0, .q 1, .q 2, .q 3, .q 4, .q 5, .q 6, .q 7, .q 8, .q 9, .q 10, .q 11, .q 12, .q 13, .q 14, .q 15, .q 16] mixed (by kernel_rfl) (by kernel_rfl) ?_)
      | (apply GS_nil)
      | (apply GS_qon; eq_refl; eq_refl; eq_refl; eq_refl)
      | (apply G_pv; eq_refl; first | exact trivial | omega)
      | (apply G_fieldP; eq_refl)
      | (apply G_rdW; eq_refl; (first | (apply Rd.own; (repeat first | exact In.here | apply In.there | apply In.skip); infer_instance) | (apply Rd.old; (repeat first | exact In.here | apply In.there | apply In.skip); assumption) | (apply Rd.oldR; (repeat first | exact In.here | apply In.there | apply In.skip); assumption) | exact Rd.nil | assumption); infer_instance; (case ih => infer_instance); omega; omega)
      | (apply G_cmpT; eq_refl; eq_refl; omega)
      | (apply G_len; eq_refl)
      | (apply G_ix; eq_refl; eq_refl; (first | (apply Rd.own; (repeat first | exact In.here | apply In.there | apply In.skip); infer_instance) | (apply Rd.old; (repeat first | exact In.here | apply In.there | apply In.skip); assumption) | (apply Rd.oldR; (repeat first | exact In.here | apply In.there | apply In.skip); assumption) | exact Rd.nil | assumption); (first | eq_refl | omega); omega; omega))
        exact ⟨j + 1, (by repeat first | exact trivial | refine ⟨rfl, ?_⟩), (by repeat first | exact Wk.nil | exact Wk.refl | (apply Wk.cons; (focus ((repeat first | exact Rem.here | apply Rem.there | apply Rem.skip); done))) | apply Wk.nilv | apply Wk.last | apply Wk.drop), hltj, by omega⟩
      · repeat' (first
      | (apply G_rdF; eq_refl; (apply Rd.old; (repeat first | exact In.here | apply In.there | apply In.skip); assumption); (case ih => infer_instance); omega; omega; (first | (rw [hx]; dsimp only [encM]; eq_refl) | (rw [hy]; dsimp only [encM]; eq_refl)))
      | (apply GC_seqK; intro K hK)
      | (apply hK; clear hK K)
      | (clear hK K; apply hK; clear hK K)
      | (apply GC_region)
      | (apply GL_nil)
      | (apply thenG_normal)
      | (apply thenG_exit)
      | (apply blockG_hit)
      | (apply blockG_normal)
      | (apply GC_exit)
      | (apply GC_if_false; eq_refl)
      | (apply GL_on; eq_refl; eq_refl)
      | (apply G_pv; eq_refl; first | exact trivial | omega)
      | (apply G_fieldP; eq_refl)
      | (apply G_cmpF; eq_refl; eq_refl; omega)
      | (apply G_len; eq_refl)
      | (apply G_ix; eq_refl; eq_refl; (first | (apply Rd.own; (repeat first | exact In.here | apply In.there | apply In.skip); infer_instance) | (apply Rd.old; (repeat first | exact In.here | apply In.there | apply In.skip); assumption) | (apply Rd.oldR; (repeat first | exact In.here | apply In.there | apply In.skip); assumption) | exact Rd.nil | assumption); (first | eq_refl | omega); omega; omega))
        exact ⟨i + 1, (by repeat first | exact trivial | refine ⟨rfl, ?_⟩), (by repeat first | exact Wk.nil | exact Wk.refl | (apply Wk.cons; (focus ((repeat first | exact Rem.here | apply Rem.there | apply Rem.skip); done))) | apply Wk.nilv | apply Wk.last | apply Wk.drop), hlt, by omega⟩
  · repeat' (first
      | (apply GC_seqK; intro K hK)
      | (apply hK; clear hK K)
      | (clear hK K; apply hK; clear hK K)
      | (apply GC_region)
      | (apply GL_nil)
      | (apply thenG_normal)
      | (apply thenG_exit)
      | (apply blockG_hit)
      | (apply GC_ret)
      | (apply GC_exit)
      | (apply GC_if_false; eq_refl)
      | (apply retG1; eq_refl)
      | (apply GL_on; eq_refl; eq_refl)
      | (apply G_pv; eq_refl; first | exact trivial | omega)
      | (apply G_cmpF; eq_refl; eq_refl; omega)
      | (apply G_len; eq_refl))
    exact ⟨[], (by repeat first | exact Wk.nil | exact Wk.refl | (apply Wk.cons; (focus ((repeat first | exact Rem.here | apply Rem.there | apply Rem.skip); done))) | apply Wk.nilv | apply Wk.last | apply Wk.drop), rfl, rfl⟩
end SC
end Go.Proofs.Ytkndegjodnciaaa
end
section
/- trestlebook: CopyTrace; runs of traces that read the same. -/
set_option linter.unusedVariables false
set_option linter.unusedSimpArgs false
namespace Go.Proofs.Ytkndegjodnciaaa
namespace SC
open Go.Proofs
theorem map_snd_get {α β γ : Type} [Inhabited α] [Inhabited β] [Inhabited γ] {ps : List (α × β)} {qs : List (γ × β)} (h : ps.map (·.2) = qs.map (·.2)) (i : Nat) : (gt ps (i : Int)).2 = (gt qs (i : Int)).2 := by
  have hl := congrArg List.length h
  simp only [List.length_map] at hl
  by_cases hi : i < ps.length
  · exact gt_snd h hi
  · unfold gt
    simp only [Int.toNat_natCast]
    rw [List.getD_eq_getElem?_getD, List.getD_eq_getElem?_getD, List.getElem?_eq_none (by omega), List.getElem?_eq_none (by omega)]
    rfl
theorem TrcEq.fit {c : Circ} {t t' : Trc} (E : TrcEq t t') : fitsM c t = fitsM c t' := by
  have e3 := congrArg List.length E.rows
  simp only [List.length_map] at e3
  have e4 : ∀ (r : List (Hdl × List Bool)), (r.all fun p => decide (p.2.length = c.inputs.length)) = (r.map (·.2)).all fun l => decide (l.length = c.inputs.length) := fun r => by rw [List.all_map]; rfl
  unfold fitsM
  rw [E.init, E.loop, e3, e4, e4, E.rows]
theorem TrcEq.st {c : Circ} {t t' : Trc} (E : TrcEq t t') : ∀ k, stM c t k = stM c t' k
  | 0 => E.init
  | k + 1 => by unfold stM; rw [TrcEq.st E k, map_snd_get E.rows k]
theorem TrcEq.runE {c : Circ} {t t' : Trc} (E : TrcEq t t') : runE c t = runE c t' := by unfold SC.runE; rw [E.fit]
theorem TrcEq.runs {c : Circ} {t t' : Trc} (E : TrcEq t t') : runsM c t = runsM c t' := by
  have e3 := congrArg List.length E.rows
  simp only [List.length_map] at e3
  unfold runsM runM
  rw [E.runE, e3]
  congr 1
  exact List.map_congr_left fun k _ => by rw [E.st k, map_snd_get E.rows k]
def rowE (p : Hdl × List Bool) : Mm := [.vec booc 1 4 p.1.1 p.1.2 p.2]
def CopyR (t : Trc) (v : Value) (N : Mm) : Prop := ∃ t' a' b', TrcEq t' t ∧ v = .agg (tcs t' a' b').toArray ∧ N = .vec booc 1 4 a'.1 a'.2 t'.init :: .vec encS 1 62 b'.1 b'.2 t'.rows :: fam rowE t'.rows
/-- A trace in memory of its own. -/
theorem TrcIn.own {Γ : Mm} {w w0 : World} {t t' : Trc} {a b a' b' : Hdl} (H : TrcIn w0 t a b) (E : TrcEq t' t) (h1 : In Γ (.vec booc 1 4 a'.1 a'.2 t'.init)) (h2 : In Γ (.vec encS 1 62 b'.1 b'.2 t'.rows)) (h3 : ∀ F ∈ fam rowE t'.rows, In Γ F) (M : Mem w Γ) : TrcIn w t' a' b' := by
  have e3 := congrArg List.length E.rows
  simp only [List.length_map] at e3
  have hp : ∀ p ∈ t'.rows, In Γ (.vec booc 1 4 p.1.1 p.1.2 p.2) := fun p hp => h3 _ (fam_mem hp (by unfold rowE; simp))
  refine ⟨h1.row M, h2.row M, fun p h => (hp p h).row M, fun h => h1.nil0 M h, fun h => h2.nil0 M h, fun p h hA => (hp p h).nil0 M hA, by rw [E.init]; exact H.li, by rw [e3]; exact H.lr, fun p h => ?_, by rw [E.loop]; exact H.lo⟩
  have : p.2 ∈ t.rows.map (·.2) := by rw [← E.rows]; exact List.mem_map.2 ⟨p, h, rfl⟩
  obtain ⟨q, hq, e⟩ := List.mem_map.1 this
  rw [← e]
  exact H.le q hq
attribute [local irreducible] WC WL WX WS WO OX Does DoesU Enters CV Pure thenQ blockQ retQ Wants retQC GC GL GS GX RdB thenG blockG retG Rd At gt CVN CVM
set_option maxRecDepth 100000
end SC
end Go.Proofs.Ytkndegjodnciaaa
end
section
/- Entries bound together; what runs answer. -/
set_option linter.unusedVariables false
set_option linter.unusedSimpArgs false
namespace Go.Proofs.Ytkndegjodnciaaa
namespace SC
open Go.Proofs
/-- Entries as one. -/
def bun (Δ : Mm) : EntX where
  own := owns Δ
  ok := fun w => Mem w Δ
  lt := fun w M k hk => M.lt hk
  keep := fun w w' S M hc hn => M.chg hc hn
theorem In.bun {Γ Δ : Mm} {w : World} (h : In Γ (.any (bun Δ))) (M : Mem w Γ) : Mem w Δ := h.ok M
theorem Rd.bun {α : Type} {Γ Δ : Mm} {enc : α → List Value} {sz : Nat} {A : Option Addr} {l : List α} (h : In Γ (.any (bun Δ))) (h0 : Rd Δ enc sz A l) : Rd Γ enc sz A l := fun w M => h0.at (h.bun M)
theorem CVN.bun {P : Program} {f : FuncId} {args : List Value} {w : World} {R : Value → Mm → Prop} (h : CVN P f args w R) : CVN P f args w fun v N => ∃ N', R v N' ∧ N = [.any (bun N')] :=
  CV.mono h fun v w' ⟨N, M, hR⟩ => ⟨[.any (SC.bun N)], Mem.join (.one M.left) M.right fun k ⟨E, hE, h1⟩ h2 => by
    simp only [List.mem_singleton] at hE
    subst hE
    exact M.sep k h1 h2, N, hR, rfl⟩
theorem Wk.left {Γ Δ : Mm} : Wk (Δ ++ Γ) Δ := ⟨fun w M => M.left, fun k hk => owns_append.2 (.inl hk)⟩
/-- A run's moments, bound together. -/
abbrev runB (ps : List (HMom × Mom)) (A : Option Addr) (k : Nat) : Mm := .vec encM 4 82 A k ps :: fam momE ps
theorem MomsIn.bun {Γ : Mm} {w : World} {A : Option Addr} {k : Nat} {ps : List (HMom × Mom)} (hi : In Γ (.any (bun (runB ps A k)))) (M : Mem w Γ) : MomsIn w A ps := MomsIn.of .here (fun E hE => .there (In.of hE)) (hi.bun M)
abbrev trcB (t : Trc) (a b : Hdl) : Mm := .vec booc 1 4 a.1 a.2 t.init :: .vec encS 1 62 b.1 b.2 t.rows :: fam rowE t.rows
theorem TrcIn.bun {Γ : Mm} {w w0 : World} {t t' : Trc} {a b a' b' : Hdl} (H : TrcIn w0 t a b) (E : TrcEq t' t) (hi : In Γ (.any (bun (trcB t' a' b')))) (M : Mem w Γ) : TrcIn w t' a' b' := H.own E .here (.there .here) (fun F hF => .there (.there (In.of hF))) (hi.bun M)
theorem mem_selF {a : Int} {v : List Bool} {ls : List Int} {i : Nat} {x : Int × Int} (h : x ∈ selF a v ls i) : x.1 = a ∧ 0 ≤ x.2 ∧ x.2 < i := by
  unfold selF at h
  obtain ⟨k, hk, rfl⟩ := List.mem_map.1 h
  have := (List.mem_filter.1 hk).1
  simp at this
  exact ⟨rfl, by simp, by simp; omega⟩
theorem mem_fairJ {v : List Bool} {js : List (List Int)} {i : Nat} {x : Int × Int} (h : x ∈ fairJ v js i) : 0 ≤ x.1 ∧ x.1 < i ∧ 0 ≤ x.2 ∧ ∃ l, x.2 < l ∧ (l : Int) ≤ (js.getD x.1.toNat []).length := by
  unfold fairJ at h
  obtain ⟨k, hk, h2⟩ := List.mem_flatMap.1 h
  obtain ⟨e1, e2, e3⟩ := mem_selF h2
  simp at hk
  refine ⟨by omega, by omega, e2, ((js.getD k []).length : Int), e3, ?_⟩
  rw [e1]
  simp
/-- What is so of a run's moments. -/
theorem runs_facts {w : World} {c : Circ} {h js : Hd} {t : Trc} (H : CirIn w c h js) : ∀ m ∈ runsM c t, m.state.length ≤ 16384 ∧ ∀ x ∈ m.fair, fits x.1 ∧ fits x.2 := by
  intro m hm
  unfold runsM at hm
  split at hm
  · rename_i he
    obtain ⟨z1, F⟩ := runE_zero he
    have R := right_of H.at_ H.sane z1
    have n2 := R.nLat
    have n3 := R.nJust
    have n4 := R.nFair
    have n5 := R.sumJ H.fits
    unfold runM at hm
    obtain ⟨k, hk, rfl⟩ := List.mem_map.1 hm
    refine ⟨by show (stM c t k).length ≤ _; rw [stM_len F.init]; exact n2, fun x hx => ?_⟩
    rcases List.mem_append.1 (show x ∈ fairJ _ c.justice c.justice.length ++ selF (-1) _ c.fairness c.fairness.length from hx) with h1 | h1
    · obtain ⟨g1, g2, g3, l, g4, g5⟩ := mem_fairJ h1
      have hlt : x.1.toNat < c.justice.length := by omega
      have := each_sum hlt
      have e1 : c.justice.getD x.1.toNat [] = c.justice[x.1.toNat] := by simp [hlt]
      rw [e1] at g5
      unfold fits
      omega
    · obtain ⟨g1, g2, g3⟩ := mem_selF h1
      unfold fits
      omega
  · cases hm
def RunR' (ε : Int) (m : List Mom) (v : Value) (N : Mm) : Prop := ∃ (ps : List (HMom × Mom)) (A : Option Addr) (k : Nat), v = .tuple #[.slice A ps.length k, nu ε] ∧ ps.map (·.2) = m ∧ N = runB ps A k
def RunB (ε : Int) (m : List Mom) (v : Value) (N : Mm) : Prop := ∃ (ps : List (HMom × Mom)) (A : Option Addr) (k : Nat), v = .tuple #[.slice A ps.length k, nu ε] ∧ ps.map (·.2) = m ∧ N = [.any (bun (runB ps A k))]
theorem RunR.to {P : Program} {f : FuncId} {args : List Value} {w : World} {c : Circ} {t : Trc} {ε : Int} {m : List Mom} (h : CVN P f args w (RunR c t)) (h1 : runE c t = ε) (h2 : runsM c t = m) : CVN P f args w (RunR' ε m) := by
  subst h1 h2
  exact h
theorem RunB.to {P : Program} {f : FuncId} {args : List Value} {w : World} {ε : Int} {m : List Mom} (h : CVN P f args w (RunR' ε m)) : CVN P f args w (RunB ε m) :=
  h.bun.mono fun v N ⟨N', ⟨ps, A, k, e1, e2, e3⟩, e4⟩ => ⟨ps, A, k, e1, e2, by rw [e4, e3]⟩
end SC
end Go.Proofs.Ytkndegjodnciaaa
end
section
/- trestlelaw07: SimRuns: the walk. -/
set_option linter.unusedVariables false
set_option linter.unusedSimpArgs false
namespace Go.Proofs.Ytkndegjodnciaaa
namespace SC
open Go.Proofs
attribute [local irreducible] WC WL WX WS WO OX Does DoesU Enters CV Pure thenQ blockQ retQ Wants retQC GC GL GS GX RdB thenG blockG retG Rd At gt CVN CVM
attribute [local irreducible] fam bun
set_option maxRecDepth 100000
end SC
end Go.Proofs.Ytkndegjodnciaaa
end
section
/- Traces that come in. -/
set_option linter.unusedVariables false
set_option linter.unusedSimpArgs false
namespace Go.Proofs.Ytkndegjodnciaaa
namespace SC
open Go.Proofs
set_option maxRecDepth 100000
section
variable {H : Type} {enc : TypeId × Value → H} {W : World} {base : Nat} {spare : Nat → Bool} {held : Bool}
theorem bytes62 : Try.prog.bytesOf 62 = 24 := by kernel_rfl
/-- A row of a trace that comes in. -/
theorem openTrowS {fuel : Nat} {cs : List Value} {x : DataW H × List MemPlace} (h : DataW.trod enc Try.prog W base spare held fuel 62 cs = some x) : ∃ y : Hdl × List Bool, encS y = cs ∧ (RowA W booc 1 y.1.1 y.2 ∧ (y.1.1 = none → y.1.2 = 0) ∧ ∀ R, (∀ n ∈ x.1.weights Try.prog 62, n ≤ R) → y.2.length ≤ R) := by
  obtain ⟨A, cp, l, rfl, r, z, w⟩ := openBoolsF h
  exact ⟨((A, cp), l), rfl, r, z, w⟩
/-- A trace that comes in. -/
theorem openTrcS {v : Value} {d : DataW H} {ps : List MemPlace} {r : Reach} {b0 : Nat} (hv : Value.okWide Try.prog W r b0 73 v) (h : DataW.Trod enc Try.prog W base spare held 73 v d ps) (hz : ∀ n ∈ d.weights Try.prog 73, n ≤ 140737488351232) :
    ∃ (t : Trc) (a b : Hdl), v = .agg (tcs t a b).toArray ∧ TrcIn W t a b := by
  obtain ⟨cs, rfl, hsz⟩ := Go.WideShapes.okWide_struct Try.underlying73 hv
  obtain ⟨fuel, hf⟩ := h
  rw [agg_cells] at hf
  obtain ⟨hl, n, hfl⟩ := openFieldS Try.underlying73 (by kernel_rfl) hf
  have hl : cs.toList.length = 3 := hl
  obtain ⟨y0, h0, g0⟩ := hfl 0 _ (by rw [hl]; decide) rfl rfl (by kernel_rfl)
  obtain ⟨y1, h1, g1⟩ := hfl 1 _ (by rw [hl]; decide) rfl rfl (by kernel_rfl)
  obtain ⟨y2, h2, g2⟩ := hfl 2 _ (by rw [hl]; decide) rfl rfl (by kernel_rfl)
  obtain ⟨A0, c0, l0, e0, r0, z0, w0⟩ := openBoolsF h0
  obtain ⟨A1, c1, l1, e1, r1, k1, n1, z1, w1⟩ := openRowS encS (fun y d => RowA W booc 1 y.1.1 y.2 ∧ (y.1.1 = none → y.1.2 = 0) ∧ ∀ R, (∀ n ∈ d.weights Try.prog 62, n ≤ R) → y.2.length ≤ R) Try.underlying71 (by kernel_rfl) (fun _ => rfl) (fun _ _ _ h => openTrowS h) h1
  obtain ⟨lo, e2, f2⟩ := openIntS h2
  rw [bytes62] at w1
  have v0 := w0 _ fun n hn => hz n (g0 n hn)
  have v1 := w1 _ fun n hn => hz n (g1 n hn)
  have k1' : ∀ y ∈ l1, RowA W booc 1 y.1.1 y.2 ∧ (y.1.1 = none → y.1.2 = 0) ∧ y.2.length ≤ 140737488351232 := fun y hy => by
    obtain ⟨d, ⟨q1, q2, q3⟩, q5⟩ := k1 y hy
    exact ⟨q1, q2, q3 _ fun n hn => hz n (g1 n (q5 n hn))⟩
  refine ⟨⟨l0, l1, lo⟩, (A0, c0), (A1, c1), ?_, r0, r1, fun p hp => (k1' p hp).1, z0, z1, fun p hp => (k1' p hp).2.1, v0, (by show l1.length ≤ _; omega), fun p hp => (k1' p hp).2.2, f2⟩
  congr 1
  apply Array.ext'
  apply List.ext_getElem (by rw [hl]; rfl)
  intro i hi1 hi2
  match i, hi2 with
  | 0, _ => exact (List.cons.inj e0).1
  | 1, _ => exact (List.cons.inj e1).1
  | 2, _ => exact (List.cons.inj e2).1.symm
end
end SC
end Go.Proofs.Ytkndegjodnciaaa
end
section
/- A back part of a slice; numbers without a sign; a run from one of its states. -/
set_option linter.unusedVariables false
set_option linter.unusedSimpArgs false
namespace Go.Proofs.Ytkndegjodnciaaa
namespace SC
open Go.Proofs
set_option maxRecDepth 100000
section
variable {n : Nat} {all : List Oper} {K : Env → Mm → Prop} {m : Md} {e : Env} {Γ : Mm} {d : Option Tmp} {ty t t' t0 : TypeId} {x y : Operand} {td : TypeDesc} {sz sz1 by_ by1 : Nat} {zv z1 : Value} {ag ag1 : Bool}
end
theorem RowA.drop {α : Type} {w : World} {enc : α → List Value} {sz : Nat} {A : Option Addr} {l : List α} (h : RowA w enc sz A l) (i : Nat) : RowA w enc sz (A.map (·.add (i * sz))) (l.drop i) := fun k hk => by
  rw [List.length_drop] at hk
  obtain ⟨p, rfl, hp⟩ := h (i + k) (by omega)
  refine ⟨p.add (i * sz), rfl, fun j u hj => ?_⟩
  rw [List.getElem_drop] at hj
  have := hp j u hj
  rw [show ((i + k : Nat) : Int).toNat = i + k by omega, Nat.add_mul] at this
  rw [show (k : Int).toNat = k by omega, Addr.add_add p]
  exact this
theorem MomsIn.drop {w : World} {A : Option Addr} {ps : List (HMom × Mom)} (H : MomsIn w A ps) (i : Nat) : MomsIn w (A.map (·.add (i * 4))) (ps.drop i) :=
  ⟨H.row.drop i, fun p hp => H.st p (List.mem_of_mem_drop hp), fun p hp => H.bd p (List.mem_of_mem_drop hp), fun p hp => H.fr p (List.mem_of_mem_drop hp), by have := H.len; rw [List.length_drop]; omega, fun p hp => H.le p (List.mem_of_mem_drop hp)⟩
/-- The trace from a state on. -/
noncomputable def tail (c : Circ) (t : Trc) (i : Nat) : Trc := ⟨stM c t i, t.rows.drop i, -1⟩
end SC
end Go.Proofs.Ytkndegjodnciaaa
end
section
/- trestleref03: Lit, Lits, Binary. -/
set_option linter.unusedVariables false
set_option linter.unusedSimpArgs false
namespace Go.Proofs.Ytkndegjodnciaaa
namespace SC
open Go.Proofs
theorem gt_L (to : List Int) (v : Int) : gt to v = L to v := rfl
/-- The binary order. -/
structure BinOk (c : Circ) : Prop where
  inp : ∀ i : Nat, i < c.inputs.length → gt c.inputs (i : Int) = 2 * i + 2
  lat : ∀ i : Nat, i < c.latches.length → (gt c.latches (i : Int)).1 = 2 * (c.inputs.length + i) + 2
  and : ∀ i : Nat, i < c.ands.length → (gt c.ands (i : Int)).1 = 2 * (c.inputs.length + c.latches.length + i) + 2 ∧ (gt c.ands (i : Int)).2.1 < (gt c.ands (i : Int)).1 ∧ (gt c.ands (i : Int)).2.2 ≤ (gt c.ands (i : Int)).2.1
  max : (c.inputs.length : Int) + c.latches.length + c.ands.length = c.max
attribute [local irreducible] WC WL WX WS WO OX Does DoesU Enters CV Pure thenQ blockQ retQ Wants retQC GC GL GS GX RdB thenG blockG retG Rd At gt CVN CVM
set_option maxRecDepth 100000
end SC
end Go.Proofs.Ytkndegjodnciaaa
end
section
/- The renumbering's map: what it gives to each variable of a right circuit. -/
set_option linter.unusedVariables false
set_option linter.unusedSimpArgs false
namespace Go.Proofs.Ytkndegjodnciaaa
namespace SC
open Go.Proofs
theorem nodup_map {α β : Type} {f : α → β} {l : List α} (hf : ∀ a b, f a = f b → a = b) (h : l.Nodup) : (l.map f).Nodup := by
  rw [List.Nodup, List.pairwise_map]
  exact h.imp fun {a b} hab e => hab (hf a b e)
theorem nodup_of_map {α β : Type} {f : α → β} {l : List α} (h : (l.map f).Nodup) : l.Nodup := by
  rw [List.Nodup, List.pairwise_map] at h
  exact h.imp fun {a b} hab e => hab (by rw [e])
theorem mapOf_all {max : Int} {ks : List Int} (hr : ∀ k ∈ ks, rg (max + 1).toNat (k / 2)) (hn : (ks.map (· / 2)).Nodup) : ∀ (n : Nat), n ≤ ks.length → ∀ v, 0 ≤ v → (∀ (j : Nat) (hj : j < ks.length), j < n → v = ks[j] / 2 → L (mapOf max (ks.take n)) v = 2 * j + 2) ∧ ((∀ (j : Nat) (hj : j < ks.length), j < n → v ≠ ks[j] / 2) → L (mapOf max (ks.take n)) v = 0) := by
  intro n
  induction n with
  | zero =>
    intro _ v _
    rw [List.take_zero]
    exact ⟨fun j _ hj => absurd hj (Nat.not_lt_zero _), fun _ => L_rep _ v⟩
  | succ n ih =>
    intro hn' v hv
    have hlt : n < ks.length := by omega
    rw [List.take_succ_eq_append_getElem hlt, mapOf_snoc, L_set _ (by rw [mapOf_len]; exact hr _ (List.getElem_mem hlt)) hv, List.length_take, Nat.min_eq_left (by omega)]
    obtain ⟨i1, i2⟩ := ih (by omega) v hv
    refine ⟨fun j hj hjn e => ?_, fun h => ?_⟩
    · by_cases hjn' : j = n
      · subst hjn'
        rw [if_pos e]
      · have hne : v ≠ ks[n] / 2 := fun e2 => hjn' (by
          have h1 : (ks.map (· / 2))[j]'(by simpa using hj) = (ks.map (· / 2))[n]'(by simpa using hlt) := by simp only [List.getElem_map]; rw [← e, ← e2]
          exact nodup_ix hn (by simpa using hj) (by simpa using hlt) h1)
        rw [if_neg hne]
        exact i1 j hj (by omega) e
    · rw [if_neg (h n hlt (by omega))]
      exact i2 fun j hj hjn => h j hj (by omega)
theorem mapOf_at {max : Int} {ks : List Int} (hr : ∀ k ∈ ks, rg (max + 1).toNat (k / 2)) (hn : (ks.map (· / 2)).Nodup) {j : Nat} (hj : j < ks.length) : L (mapOf max ks) (ks[j] / 2) = 2 * j + 2 := by
  have h := (mapOf_all hr hn ks.length (Nat.le_refl _) (ks[j] / 2) (hr _ (List.getElem_mem hj)).1).1 j hj hj rfl
  rwa [List.take_length] at h
theorem mapOf_no {max : Int} {ks : List Int} (hr : ∀ k ∈ ks, rg (max + 1).toNat (k / 2)) (hn : (ks.map (· / 2)).Nodup) {v : Int} (hv : 0 ≤ v) (h0 : ∀ k ∈ ks, v ≠ k / 2) : L (mapOf max ks) v = 0 := by
  have h := (mapOf_all hr hn ks.length (Nat.le_refl _) v hv).2 fun j hj _ => h0 _ (List.getElem_mem hj)
  rwa [List.take_length] at h
section
variable {c : Circ} (R : Right c)
include R
/-- What defines a variable. -/
theorem Right.defs {k : Int} (h : k ∈ defsOf c (ordM c)) : defR c k := by
  unfold defsOf at h
  rcases List.mem_append.1 h with h | h
  · rcases List.mem_append.1 h with h | h
    · exact R.inp h
    · obtain ⟨x, hx, rfl⟩ := List.mem_map.1 h
      exact (R.lat hx).1
  · obtain ⟨i, hi, rfl⟩ := List.mem_map.1 h
    have ho := R.ord hi
    refine (R.gate ?_).1
    unfold andAt
    have hlt : i.toNat < c.ands.length := by omega
    simp [hlt]
theorem Right.defs_rg {k : Int} (h : k ∈ defsOf c (ordM c)) : rg (c.max + 1).toNat (k / 2) := by
  have := R.defs h
  have := R.m0
  unfold defR at *
  unfold rg
  omega
theorem Right.defs_nodup : ((defsOf c (ordM c)).map (· / 2)).Nodup := by
  have hT := R.tab
  generalize htab : tabM c = t at *
  have key : ((defsOf c (ordM c)).map (· / 2)).map (fun v : Int => t[v.toNat]?) = ((List.range c.inputs.length).map fun (j : Nat) => some ((1 : Int), (j : Int))) ++ ((List.range c.latches.length).map fun (j : Nat) => some ((2 : Int), (j : Int))) ++ (ordM c).map fun i => some ((3 : Int), i) := by
    unfold defsOf
    simp only [List.map_append, List.map_map]
    congr 1
    · congr 1
      · apply List.ext_getElem (by simp)
        intro j h1 h2
        simp only [List.length_map] at h1
        simp only [List.getElem_map, Function.comp_apply, List.getElem_range]
        exact (hT.inp j h1).2
      · apply List.ext_getElem (by simp)
        intro j h1 h2
        simp only [List.length_map] at h1
        simp only [List.getElem_map, Function.comp_apply, List.getElem_range]
        exact (hT.lat j h1).2.1
    · apply List.map_congr_left
      intro i hi
      have ho := R.ord hi
      have hlt : i.toNat < c.ands.length := by omega
      simp only [Function.comp_apply]
      have := (hT.gat i.toNat hlt).2
      rw [show ((i.toNat : Nat) : Int) = i by omega] at this
      rw [show andAt c i = c.ands[i.toNat] by unfold andAt; simp [hlt]]
      exact this
  have hnd : (((List.range c.inputs.length).map fun (j : Nat) => some ((1 : Int), (j : Int))) ++ ((List.range c.latches.length).map fun (j : Nat) => some ((2 : Int), (j : Int))) ++ (ordM c).map fun i => some ((3 : Int), i)).Nodup := by
    have h1 : ∀ (k : Int) (n : Nat), ((List.range n).map fun (j : Nat) => some (k, (j : Int))).Nodup := fun k n => nodup_map (fun a b e => by simp at e; omega) List.nodup_range
    have h3 : ((ordM c).map fun i => some ((3 : Int), i)).Nodup := nodup_map (fun a b e => by simpa using e) R.all.told.nodup
    rw [List.nodup_append, List.nodup_append]
    refine ⟨⟨h1 1 _, h1 2 _, ?_⟩, h3, ?_⟩
    · intro a ha b hb e
      obtain ⟨x, _, rfl⟩ := List.mem_map.1 ha
      obtain ⟨y, _, rfl⟩ := List.mem_map.1 hb
      simp at e
    · intro a ha b hb e
      obtain ⟨y, _, rfl⟩ := List.mem_map.1 hb
      rcases List.mem_append.1 ha with ha | ha
      · obtain ⟨x, _, rfl⟩ := List.mem_map.1 ha
        simp at e
      · obtain ⟨x, _, rfl⟩ := List.mem_map.1 ha
        simp at e
  rw [← key] at hnd
  exact nodup_of_map hnd
theorem Right.to_at {j : Nat} (hj : j < (defsOf c (ordM c)).length) : L (mapOf c.max (defsOf c (ordM c))) ((defsOf c (ordM c))[j] / 2) = 2 * j + 2 := mapOf_at (fun _ => R.defs_rg) R.defs_nodup hj
theorem Right.to_no {v : Int} (hv : 0 ≤ v) (h0 : ∀ k ∈ defsOf c (ordM c), v ≠ k / 2) : L (mapOf c.max (defsOf c (ordM c))) v = 0 := mapOf_no (fun _ => R.defs_rg) R.defs_nodup hv h0
end
end SC
end Go.Proofs.Ytkndegjodnciaaa
end
