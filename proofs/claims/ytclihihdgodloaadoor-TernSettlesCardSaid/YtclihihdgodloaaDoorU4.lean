/- Texts of this seat, one behind the other: L5 L6 L7 L8 L9 S2 S3 S4 S5 S6 S7 S8 S9 S10 S11 S12 S13 L10 S14 S15 S16 S17 T1 S18 S19 S20 S21 S22 S23 S24 S27 S28 S29 S30 S31 S32 S33 S36 S34 S35 M1 M2 M3 S37 S38 S39 S40 O0 T3 T4 T5 T6 T7. -/
import Derived.Test.YtclihihdgodloaaDoorU3
import Derived.ChangeArms
import Derived.Laws.CopyRow
section
/- trestleref03: gates. -/
set_option linter.unusedVariables false
set_option linter.unusedSimpArgs false
namespace Go.Proofs.YtclihihdgodloaaDoor
namespace SC
open Go.Proofs
/-- What a gate asks for: a literal's gate, or none. -/
theorem TabOk.lit {c : Circ} {t : Tab} (hT : TabOk c t) (hU : UseAll c t) {i : Int} (hi : rg c.ands.length i) {l : Int} (hl : l = (andAt c i).2.1 ∨ l = (andAt c i).2.2) :
    0 ≤ l ∧ l ≤ 2 * c.max + 1 ∧ ((kindAt t (l / 2) = 3 ∧ L (SC.gatesM c) (l / 2) = atOf t (l / 2) ∧ rg c.ands.length (atOf t (l / 2)) ∧ atOf t (l / 2) ∈ gateB t c i) ∨ (kindAt t (l / 2) ≠ 3 ∧ L (SC.gatesM c) (l / 2) = -1)) := by
  have hlt : i.toNat < c.ands.length := by unfold rg at hi; omega
  have e : andAt c i = c.ands[i.toNat] := by unfold andAt; simp [hlt]
  have hu := hU.ands _ (List.getElem_mem hlt)
  rw [← e] at hu
  have h0 : 0 ≤ l ∧ l ≤ 2 * c.max + 1 := by
    rcases hl with rfl | rfl
    · exact ⟨hu.1.1, hu.1.2.1⟩
    · exact ⟨hu.2.1, hu.2.2.1⟩
  refine ⟨h0.1, h0.2, ?_⟩
  have hr : rg (c.max + 1).toNat (l / 2) := by unfold rg; omega
  have hg := hT.gatesM hr
  by_cases hk : kindAt t (l / 2) = 3
  · rw [if_pos hk] at hg
    have hm : atOf t (l / 2) ∈ gateB t c i := (mem_gateB hi).2 ⟨l, hl, hk, rfl⟩
    exact .inl ⟨hk, hg, hT.below hU i hi _ hm, hm⟩
  · rw [if_neg hk] at hg
    exact .inr ⟨hk, hg⟩
attribute [local irreducible] WC WL WX WS WO OX Does DoesU Enters CV Pure thenQ blockQ retQ Wants retQC
set_option maxRecDepth 100000
theorem gates80_cv {w : World} {c : Circ} {h js : Hd} {t : Tab} (H : CirAt w c h js) (hT : TabOk c t) (hm : 0 ≤ c.max ∧ c.max ≤ 16384) (hn : c.ands.length ≤ 16384) : CV Tryd.prog 82 [.agg (ccells c h).toArray] w fun v w' => v = .slice (some ⟨w.heap.size + 1, 0, none⟩) (gatesM c).length (gatesM c).length ∧ Blk w' (w.heap.size + 1) 3 ((gatesM c).map nu) ∧ Chg w w' none_ := by
  obtain ⟨m, hm2⟩ : ∃ m : Nat, c.max + 1 = m := ⟨(c.max + 1).toNat, by omega⟩
  have hml : (c.max + 1).toNat = m := by omega
  have hI0 : Blk (w.alloc (.cells (ccells c h).toArray 29)) w.heap.size 29 (ccells c h) := Blk.new w _ _
  have hC0 := Chg.alloc w (.cells (ccells c h).toArray 29) none_
  have hz0 := sz_alloc w (.cells (ccells c h).toArray 29)
  refine enter 37 [2] Tryd.func82 rfl rfl rfl (by decide) rfl ?_
  repeat' (first
|(apply WC_seqK;intro K hK)
|(apply hK;clear hK)
|(apply WC_region)
|(apply WL_nil)
|(apply thenQ_normal)
|(apply WL_on0;eq_refl)
|(apply X_pv;eq_refl;first|exact trivial|omega)
|(apply X_field;eq_refl)
|(apply X_loadR;eq_refl;(first|assumption|(apply Blk.alloc;assumption)|apply Blk.new|apply Blk.newA|(apply Blk.alloc;first|apply Blk.newA|(apply Blk.alloc;first|assumption|apply Blk.newA)));eq_refl)
|(apply X_box;eq_refl))
  rw [hm2]
  repeat' (first
|(apply X_make;eq_refl;omega;omega)
|(apply WC_seqK;intro K hK)
|(apply hK;clear hK)
|(apply WC_block)
|(apply WC_region)
|(apply WL_nil)
|(apply thenQ_normal)
|(apply WL_on0;eq_refl)
|(apply X_pv;eq_refl;first|exact trivial|omega))
  have e1 : (madeCells (Value.int .i64 0).cells (m * 1)).toList = (List.replicate m (0 : Int)).map nu := by rw [Nat.mul_one, show (Value.int .i64 0).cells = #[nu 0] from rfl, made_one, List.map_replicate]
  have b1 := Blk.newA (w.alloc (.cells (ccells c h).toArray 29)) (madeCells (Value.int .i64 0).cells (m * 1)) 3
  rw [e1, hz0] at b1
  refine WC_loop (fun s : Nat × List Int => [(1, pt w.heap.size), (3, .slice (some ⟨w.heap.size + 1, 0, none⟩) m m), (4, nu s.1)])
    (fun s W => Chg w W none_ ∧ Blk W w.heap.size 29 (ccells c h) ∧ Blk W (w.heap.size + 1) 3 (s.2.map nu) ∧ s.2.length = m ∧ s.2.take s.1 = List.replicate s.1 (-1) ∧ s.1 ≤ m) (fun s => m - s.1) (0, List.replicate m 0) ⟨rfl, congrArg (fun k => some (Value.slice (some ⟨k, 0, none⟩) m m)) hz0, rfl, trivial⟩ ⟨hC0.al _, hI0.alloc _, b1, by simp, by simp, Nat.zero_le _⟩ ?_
  clear b1 hI0 hC0 hz0 e1
  rintro ⟨i, l⟩ w1 ⟨hC1, hI1, hB1, hll, hlt', hi⟩
  simp only at hB1 hll hlt' hi
  rcases Nat.lt_or_ge i m with hlt | hge
  · repeat' (first
|(apply WC_seqK;intro K hK)
|(apply hK;clear hK)
|(apply WC_block)
|(apply WC_region)
|(apply WL_nil)
|(apply thenQ_normal)
|(apply WC_skip)
|(apply WC_if_true;eq_refl)
|(apply WL_on0;eq_refl)
|(apply X_pv;eq_refl;first|exact trivial|omega)
|(apply X_field;eq_refl)
|(apply X_loadR;eq_refl;(first|assumption|(apply Blk.alloc;assumption)|apply Blk.new|apply Blk.newA|(apply Blk.alloc;first|apply Blk.newA|(apply Blk.alloc;first|assumption|apply Blk.newA)));eq_refl)
|(apply X_cmpT;eq_refl;eq_refl;omega)
|(apply X_index;eq_refl;eq_refl;omega;omega))
    refine X_doesU (does_store1 (t1 := 3) (b := w.heap.size + 1) (o := 0 + (i : Int).toNat * 1) (v := nu (-1)) (by eq_refl) (by eq_refl) hB1 (by simp; omega) rfl rfl) ?_
    rw [set_nu, show 0 + (i : Int).toNat * 1 = i by omega]
    have hcc := Chg.setRow w1 (w.heap.size + 1) ((l.set i (-1)).map nu).toArray (S := fun k => k = w.heap.size + 1) rfl
    have hB2 := hB1.set ((l.set i (-1)).map nu)
    repeat' (first
|(apply hK;clear hK)
|(apply WC_region)
|(apply WL_nil)
|(apply thenQ_normal)
|(apply blockQ_normal)
|(apply WL_on0;eq_refl)
|(apply X_pv;eq_refl;first|exact trivial|omega))
    exact ⟨(i + 1, l.set i (-1)), ⟨rfl, rfl, rfl, trivial⟩, ⟨hC1.trans hcc fun k hk hh => by omega, hI1.chg hcc (by omega), hB2, by simp [hll], by rw [take_set_succ _ _ _ (by omega), hlt', List.replicate_succ'], hlt⟩, by simp only; omega⟩
  obtain rfl : i = m := by omega
  rw [List.take_of_length_le (by omega)] at hlt'
  subst hlt'
  repeat' (first
|(apply WC_seqK;intro K hK)
|(apply hK;clear hK)
|(clear hK;apply hK;clear hK)
|(apply WC_block)
|(apply WC_region)
|(apply WL_nil)
|(apply thenQ_normal)
|(apply thenQ_exit)
|(apply blockQ_hit)
|(apply WC_exit)
|(apply WC_if_false;eq_refl)
|(apply WL_on0;eq_refl)
|(apply X_pv;eq_refl;first|exact trivial|omega)
|(apply X_field;eq_refl)
|(apply X_loadR;eq_refl;(first|assumption|(apply Blk.alloc;assumption)|apply Blk.new|apply Blk.newA|(apply Blk.alloc;first|apply Blk.newA|(apply Blk.alloc;first|assumption|apply Blk.newA)));eq_refl)
|(apply X_cmpF;eq_refl;eq_refl;omega))
  refine WC_loop (fun s : Nat × List Int => [(1, pt w.heap.size), (3, .slice (some ⟨w.heap.size + 1, 0, none⟩) i i), (5, nu s.1)])
    (fun s W => Chg w W none_ ∧ Blk W w.heap.size 29 (ccells c h) ∧ Blk W (w.heap.size + 1) 3 (s.2.map nu) ∧ s.2.length = i ∧ gatesL (c.ands.drop s.1) s.1 s.2 = gatesM c ∧ s.1 ≤ c.ands.length) (fun s => c.ands.length - s.1) (0, List.replicate i (-1)) ⟨rfl, rfl, rfl, trivial⟩ ⟨hC1, hI1, hB1, by simp, by unfold gatesM; rw [hml]; rfl, Nat.zero_le _⟩ ?_
  clear hI1 hB1 hC1 hll
  rintro ⟨k, l⟩ w1 ⟨hC1, hI1, hB1, hll, hgo, hk⟩
  simp only at hB1 hll hgo hk
  rcases Nat.lt_or_ge k c.ands.length with hlt | hge
  · obtain ⟨p, hp, hpc⟩ := (H.chg hC1).ands k hlt
    have hdb := (hT.gat k hlt).1
    rw [gatesL_step hlt] at hgo
    generalize hx : c.ands[k] = x at *
    have hx2 : 0 ≤ x.1 / 2 ∧ x.1 / 2 < i ∧ 0 ≤ x.1 ∧ x.1 ≤ 100000 := by unfold defBad at hdb; omega
    have e6 : (ccells c h)[0 + 8]? = some (.slice (some p) c.ands.length (h 8).2) := by rw [← hp]; rfl
    repeat' (first
|(apply X_loadR;eq_refl;exact hI1;exact e6)
|(apply X_loadC;eq_refl;exact (hpc 0 _ rfl))
|(apply WC_seqK;intro K hK)
|(apply hK;clear hK)
|(apply WC_block)
|(apply WC_region)
|(apply WL_nil)
|(apply thenQ_normal)
|(apply WC_skip)
|(apply WC_if_true;eq_refl)
|(apply WL_on0;eq_refl)
|(apply X_pv;eq_refl;first|exact trivial|omega)
|(apply X_field;eq_refl)
|(apply X_cmpT;eq_refl;eq_refl;omega)
|(apply X_len;eq_refl)
|(apply X_index;eq_refl;eq_refl;omega;omega)
|(apply X_indexP;eq_refl;eq_refl;omega;omega)
|(apply X_fieldP;eq_refl))
    refine X_doesU (does_store1 (t1 := 3) (b := w.heap.size + 1) (o := 0 + (x.1 / 2).toNat * 1) (v := nu k) (by eq_refl) (by eq_refl) hB1 (by simp; omega) rfl rfl) ?_
    rw [set_nu, show 0 + (x.1 / 2).toNat * 1 = (x.1 / 2).toNat by omega]
    have hcc := Chg.setRow w1 (w.heap.size + 1) ((l.set (x.1 / 2).toNat k).map nu).toArray (S := fun k => k = w.heap.size + 1) rfl
    have hB3 := hB1.set ((l.set (x.1 / 2).toNat k).map nu)
    repeat' (first
|(apply hK;clear hK)
|(apply WC_region)
|(apply WL_nil)
|(apply thenQ_normal)
|(apply blockQ_normal)
|(apply WL_on0;eq_refl)
|(apply X_pv;eq_refl;first|exact trivial|omega))
    exact ⟨(k + 1, l.set (x.1 / 2).toNat k), ⟨rfl, rfl, rfl, trivial⟩, ⟨hC1.trans hcc fun k hk hh => by omega, hI1.chg hcc (by omega), hB3, by simp [hll], hgo, hlt⟩, by simp only; omega⟩
  obtain rfl : k = c.ands.length := by omega
  rw [List.drop_of_length_le (Nat.le_refl _)] at hgo
  have hgo : l = gatesM c := hgo
  subst hgo
  have hgl : (gatesM c).length = i := hll
  repeat' (first
|(apply WC_seqK;intro K hK)
|(apply hK;clear hK)
|(clear hK;apply hK;clear hK)
|(apply WC_region)
|(apply WL_nil)
|(apply thenQ_normal)
|(apply thenQ_exit)
|(apply blockQ_hit)
|(apply WC_ret)
|(apply WC_exit)
|(apply WC_if_false;eq_refl)
|(apply ret1;eq_refl)
|(apply WL_on0;eq_refl)
|(apply X_pv;eq_refl;first|exact trivial|omega)
|(apply X_field;eq_refl)
|(apply X_loadR;eq_refl;(first|assumption|(apply Blk.alloc;assumption)|apply Blk.new|apply Blk.newA|(apply Blk.alloc;first|apply Blk.newA|(apply Blk.alloc;first|assumption|apply Blk.newA)));eq_refl)
|(apply X_cmpF;eq_refl;eq_refl;omega)
|(apply X_len;eq_refl))
  refine ⟨?_, hB1, hC1⟩
  rw [hgl]
end SC
end Go.Proofs.YtclihihdgodloaaDoor
end
section
/- trestleref03: told. -/
set_option linter.unusedVariables false
set_option linter.unusedSimpArgs false
namespace Go.Proofs.YtclihihdgodloaaDoor
namespace SC
open Go.Proofs
/-- What told keeps in memory: the gates of the variables, which are told, and their row. -/
structure TolSt (w W : World) (c : Circ) (h : Hd) (t : Tab) (g D : Nat) (out : List Int) (dn : List Bool) (vo : Value) : Prop where
  chg : Chg w W none_
  box : Blk W w.heap.size 29 (ccells c h)
  gate : Blk W g 3 ((gatesM c).map nu)
  done : Blk W D 4 (dn.map Value.bool)
  row : W.ownsRow (D + 1) 3 1 vo out.length (out.map nu)
  len : dn.length = c.ands.length
  told : Told c.ands.length (gateB t c) out
  mem : ∀ y, rg c.ands.length y → (Sn dn y = true ↔ y ∈ out)
theorem TolSt.same {w W W' : World} {c : Circ} {h : Hd} {t : Tab} {g D : Nat} {out : List Int} {dn : List Bool} {vo : Value} (S : TolSt w W c h t g D out dn vo) (hc : Chg W W' none_) : TolSt w W' c h t g D out dn vo :=
  ⟨S.chg.trans hc fun _ _ h => h, S.box.chg hc id, S.gate.chg hc id, S.done.chg hc id, own_chg S.row hc fun _ _ => id, S.len, S.told, S.mem⟩
section
variable {P : Program} {n : Nat} {all rest : List Oper} {K : Env → World → Prop} {e : Env} {w : World}
/-- A guard whose slot was left out: not carried out. -/
theorem WL_noU {j : Nat} {b : Bool} {d' : Nat} {d : Option Tmp} {op : Op} {ty : TypeId} {pos : String} {af : Array Edge} (h1 : gslot all j = some d') (h2 : look e d' = some undef) (hd : slotOk n d = true) (hr : WL P n all K rest (push d undef e) w) : WL P n all K (⟨d, op, ty, pos, af, some (j, b)⟩ :: rest) e w := by
  intro a Q ha hQ
  have hw : Region.wanted ⟨d, op, ty, pos, af, some (j, b)⟩ (yielded all.toArray a.tmps) = false := by
    unfold Region.wanted
    have ht := ha.tmps d' _ h2
    have hy : yielded all.toArray a.tmps j = none := by
      unfold yielded
      unfold gslot at h1
      rw [nth_eq] at h1
      have : ((all.toArray[j]?).bind (·.dst)) = some d' := by simpa using h1
      rw [this]
      simp [ht, undef]
    simp only [hy]
    rfl
  unfold wpList
  rw [if_neg (by simp [hw])]
  exact hr _ Q (ha.put d undef hd) hQ
end
attribute [local irreducible] WC WL WX WS WO OX Does DoesU Enters CV Pure thenQ blockQ retQ Wants retQC
set_option maxRecDepth 100000
theorem told_cv {w : World} {c : Circ} {h js : Hd} {t : Tab} (H : CirAt w c h js) (hT : TabOk c t) (hU : UseAll c t) (hm : 0 ≤ c.max ∧ c.max ≤ 16384) (hn : c.ands.length ≤ 16384) : CV Tryd.prog 81 [.agg (ccells c h).toArray] w fun v w' => Chg w w' none_ ∧ ∃ out, All c.ands.length (gateB t c) out ∧ w'.ownsRow w.heap.size 3 1 v out.length (out.map nu) := by
  have hI0 : Blk (w.alloc (.cells (ccells c h).toArray 29)) w.heap.size 29 (ccells c h) := Blk.new w _ _
  have hC0 := Chg.alloc w (.cells (ccells c h).toArray 29) none_
  have hgl := gatesM_len c
  have hga := gates80_cv (H.chg hC0) hT hm hn
  refine enter 74 [2] Tryd.func81 rfl rfl rfl (by decide) rfl ?_
  repeat' (first
|(apply X_fn;eq_refl;exact hga;rintro _ w1 ⟨rfl, hG1, hC1⟩;have hI1 := hI0.chg hC1 id)
|(apply X_make;eq_refl;omega;omega)
|(apply WC_seqK;intro K hK)
|(apply hK;clear hK)
|(apply WC_block)
|(apply WC_region)
|(apply WL_nil)
|(apply thenQ_normal)
|(apply WL_on0;eq_refl)
|(apply X_pv;eq_refl;first|exact trivial|omega)
|(apply X_field;eq_refl)
|(apply X_loadR;eq_refl;(first|assumption|(apply Blk.alloc;assumption)|apply Blk.new|apply Blk.newA|(apply Blk.alloc;first|apply Blk.newA|(apply Blk.alloc;first|assumption|apply Blk.newA)));eq_refl)
|(apply X_loadW;eq_refl;(first|assumption|(apply Blk.alloc;assumption)|apply Blk.new|apply Blk.newA|(apply Blk.alloc;first|apply Blk.newA|(apply Blk.alloc;first|assumption|apply Blk.newA)));eq_refl)
|(apply X_len;eq_refl)
|(apply X_box;eq_refl))
  have hC1' := hC0.trans hC1 fun _ _ h => h
  have hg0 := hG1.lt
  have hg1 : w.heap.size < (w.alloc (.cells (ccells c h).toArray 29)).heap.size + 1 := by simp; omega
  generalize (w.alloc (.cells (ccells c h).toArray 29)).heap.size + 1 = g at *
  have hdm : Blk (w1.alloc (.cells (madeCells (Value.bool false).cells (c.ands.length * 1)) 4)) w1.heap.size 4 ((List.replicate c.ands.length false).map Value.bool) := by
    have e1 : (madeCells (Value.bool false).cells (c.ands.length * 1)).toList = (List.replicate c.ands.length false).map Value.bool := by rw [Nat.mul_one, show (Value.bool false).cells = #[Value.bool false] from rfl, made_one, List.map_replicate]
    have := Blk.newA w1 (madeCells (Value.bool false).cells (c.ands.length * 1)) 4
    rwa [e1] at this
  have hS0 : TolSt w (w1.alloc (.cells (madeCells (Value.bool false).cells (c.ands.length * 1)) 4)) c h t g w1.heap.size [] (List.replicate c.ands.length false) (.slice none 0 0) :=
    ⟨hC1'.al _, hI1.alloc _, hG1.alloc _, hdm, World.ownsRow_nil _ _ _ _, by simp, .nil, fun y _ => by rw [Sn_false]; simp⟩
  generalize w1.alloc (.cells (madeCells (Value.bool false).cells (c.ands.length * 1)) 4) = w2 at *
  generalize w1.heap.size = D at *
  refine WC_loop (fun s : List Int × List Bool × Value × Bool => [(1, pt w.heap.size), (3, .slice (some ⟨g, 0, none⟩) (gatesM c).length (gatesM c).length), (4, .slice (some ⟨D, 0, none⟩) c.ands.length c.ands.length), (5, s.2.2.1), (6, .bool s.2.2.2)])
    (fun s W => TolSt w W c h t g D s.1 s.2.1 s.2.2.1 ∧ (s.2.2.2 = false → All c.ands.length (gateB t c) s.1)) (fun s => 2 * (c.ands.length - s.1.length) + if s.2.2.2 then 1 else 0)
    ([], List.replicate c.ands.length false, .slice none 0 0, true) ⟨rfl, rfl, rfl, rfl, rfl, trivial⟩ ⟨hS0, fun h => (by cases h)⟩ ?_
  clear hS0 hdm hG1 hC1 hI1 hga hI0 hC0 hC1'
  rintro ⟨out, dn, vo, again⟩ w3 ⟨hS3, hal⟩
  simp only at hS3 hal
  cases again with
  | false =>
    repeat' (first
|(apply WC_seqK;intro K hK)
|(apply hK;clear hK)
|(clear hK;apply hK;clear hK)
|(apply WC_region)
|(apply WL_nil)
|(apply thenQ_normal)
|(apply thenQ_exit)
|(apply blockQ_hit)
|(apply WC_ret)
|(apply WC_exit)
|(apply WC_if_false;eq_refl)
|(apply ret1;eq_refl)
|(apply WL_on0;eq_refl)
|(apply X_pv;eq_refl;first|exact trivial|omega))
    exact ⟨hS3.chg, out, hal rfl, own_mono hS3.row (by omega)⟩
  | true =>
    repeat' (first
|(apply WC_seqK;intro K hK)
|(apply hK;clear hK)
|(apply WC_block)
|(apply WC_region)
|(apply WL_nil)
|(apply thenQ_normal)
|(apply WC_skip)
|(apply WC_if_true;eq_refl)
|(apply WL_on0;eq_refl)
|(apply X_pv;eq_refl;first|exact trivial|omega))
    refine WC_loop (fun i : Nat => [(1, pt w.heap.size), (3, .slice (some ⟨g, 0, none⟩) (gatesM c).length (gatesM c).length), (4, .slice (some ⟨D, 0, none⟩) c.ands.length c.ands.length), (5, vo), (6, .bool false), (7, nu i)])
      (fun i W => TolSt w W c h t g D out dn vo ∧ i ≤ c.ands.length ∧ ∀ y, y < (i : Int) → ¬ CanTell c.ands.length (gateB t c) out y) (fun i => c.ands.length - i)
      0 ⟨rfl, rfl, rfl, rfl, rfl, rfl, trivial⟩ ⟨hS3, Nat.zero_le _, fun y hy hc => by have := hc.rg; unfold rg at this; omega⟩ ?_
    clear hS3 hal w3
    rintro i w3 ⟨hS3, hi, hno⟩
    have hbox := hS3.box
    rcases Nat.lt_or_ge i c.ands.length with hlt | hge
    · have hri : rg c.ands.length (i : Int) := ⟨by omega, by omega⟩
      have hdone := hS3.done
      have hcell := Sn_cell (sn := dn) (z := i) (by rw [hS3.len]; exact hri)
      have hmem := hS3.mem i hri
      cases hsi : Sn dn i with
      | true =>
        rw [hsi] at hcell
        repeat' (first
|(apply X_loadR;eq_refl;exact hdone;exact hcell)
|(apply WC_seqK;intro K hK)
|(apply hK;clear hK)
|(clear hK;apply hK;clear hK)
|(apply WC_block)
|(apply WC_region)
|(apply WL_nil)
|(apply thenQ_normal)
|(apply thenQ_exit)
|(apply blockQ_hit)
|(apply WC_exit)
|(apply WC_skip)
|(apply WC_if_true;eq_refl)
|(apply WL_on0;eq_refl)
|(apply X_pv;eq_refl;first|exact trivial|omega)
|(apply X_field;eq_refl)
|(apply X_loadR;eq_refl;(first|assumption|(apply Blk.alloc;assumption)|apply Blk.new|apply Blk.newA|(apply Blk.alloc;first|apply Blk.newA|(apply Blk.alloc;first|assumption|apply Blk.newA)));eq_refl)
|(apply X_cmpT;eq_refl;eq_refl;omega)
|(apply X_len;eq_refl)
|(apply X_index;eq_refl;eq_refl;omega;omega))
        refine ⟨i + 1, ⟨rfl, rfl, rfl, rfl, rfl, rfl, trivial⟩, ⟨hS3, hlt, fun y hy hc => ?_⟩, by omega⟩
        rcases Int.lt_or_le y (i : Int) with h1 | h1
        · exact hno y h1 hc
        · have : y = i := by omega
          subst this
          exact hc.new (hmem.1 hsi)
      | false =>
        rw [hsi] at hcell hmem
        have hnew : (i : Int) ∉ out := fun hh => by have := hmem.2 hh; cases this
        obtain ⟨p, hp, hpc⟩ := H.ands i hlt
        have hle := hT.lit hU hri (.inl rfl)
        have hri' := hT.lit hU hri (.inr rfl)
        have hx : andAt c i = c.ands[i] := by unfold andAt; simp [hlt]
        rw [hx] at hle hri'
        generalize hxx : c.ands[i] = x at *
        have hmB : ∀ z, z ∈ gateB t c i ↔ (kindAt t (x.2.1 / 2) = 3 ∧ atOf t (x.2.1 / 2) = z) ∨ (kindAt t (x.2.2 / 2) = 3 ∧ atOf t (x.2.2 / 2) = z) := fun z => by
          rw [mem_gateB hri, hx]
          constructor
          · rintro ⟨l, rfl | rfl, h1, h2⟩
            · exact .inl ⟨h1, h2⟩
            · exact .inr ⟨h1, h2⟩
          · rintro (⟨h1, h2⟩ | ⟨h1, h2⟩)
            · exact ⟨_, .inl rfl, h1, h2⟩
            · exact ⟨_, .inr rfl, h1, h2⟩
        obtain ⟨hl0, hl1, hl2⟩ := hle
        obtain ⟨hr0, hr1, hr2⟩ := hri'
        have hcl := L_cell (ls := gatesM c) (y := x.2.1 / 2) (by unfold rg; rw [hgl]; omega)
        have hcr := L_cell (ls := gatesM c) (y := x.2.2 / 2) (by unfold rg; rw [hgl]; omega)
        have ha : (L (gatesM c) (x.2.1 / 2) < 0 ∧ kindAt t (x.2.1 / 2) ≠ 3) ∨ (rg c.ands.length (L (gatesM c) (x.2.1 / 2)) ∧ kindAt t (x.2.1 / 2) = 3 ∧ atOf t (x.2.1 / 2) = L (gatesM c) (x.2.1 / 2)) := by
          rcases hl2 with ⟨h1, h2, h3, _⟩ | ⟨h1, h2⟩
          · exact .inr ⟨by rw [h2]; exact h3, h1, h2.symm⟩
          · exact .inl ⟨by rw [h2]; decide, h1⟩
        have hb : (L (gatesM c) (x.2.2 / 2) < 0 ∧ kindAt t (x.2.2 / 2) ≠ 3) ∨ (rg c.ands.length (L (gatesM c) (x.2.2 / 2)) ∧ kindAt t (x.2.2 / 2) = 3 ∧ atOf t (x.2.2 / 2) = L (gatesM c) (x.2.2 / 2)) := by
          rcases hr2 with ⟨h1, h2, h3, _⟩ | ⟨h1, h2⟩
          · exact .inr ⟨by rw [h2]; exact h3, h1, h2.symm⟩
          · exact .inl ⟨by rw [h2]; decide, h1⟩
        clear hl2 hr2
        generalize L (gatesM c) (x.2.1 / 2) = a at *
        generalize L (gatesM c) (x.2.2 / 2) = bb at *
        have e6 : (ccells c h)[0 + 8]? = some (.slice (some p) c.ands.length (h 8).2) := by rw [← hp]; rfl
        have hsl := hS3.len
        have hca : rg c.ands.length a → Sn dn a = true → (dn.map Value.bool)[0 + a.toNat * 1]? = some (.bool true) := fun h1 h2 => by rw [Sn_cell (by rw [hsl]; exact h1), h2]
        have hcb : rg c.ands.length bb → Sn dn bb = true → (dn.map Value.bool)[0 + bb.toNat * 1]? = some (.bool true) := fun h1 h2 => by rw [Sn_cell (by rw [hsl]; exact h1), h2]
        have hfa : rg c.ands.length a → Sn dn a = false → (dn.map Value.bool)[0 + a.toNat * 1]? = some (.bool false) := fun h1 h2 => by rw [Sn_cell (by rw [hsl]; exact h1), h2]
        have hfb : rg c.ands.length bb → Sn dn bb = false → (dn.map Value.bool)[0 + bb.toNat * 1]? = some (.bool false) := fun h1 h2 => by rw [Sn_cell (by rw [hsl]; exact h1), h2]
        have hra : rg c.ands.length a → 0 ≤ a ∧ a < c.ands.length := id
        have hrb : rg c.ands.length bb → 0 ≤ bb ∧ bb < c.ands.length := id
        repeat' (first
|(apply X_loadR;eq_refl;exact hdone;exact hcell)
|(apply WC_seqK;intro K hK)
|(apply hK;clear hK)
|(apply WC_block)
|(apply WC_region)
|(apply WL_nil)
|(apply thenQ_normal)
|(apply WC_skip)
|(apply WC_if_true;eq_refl)
|(apply WC_if_false;eq_refl)
|(apply WL_on0;eq_refl)
|(apply X_pv;eq_refl;first|exact trivial|omega)
|(apply X_field;eq_refl)
|(apply X_loadR;eq_refl;(first|assumption|(apply Blk.alloc;assumption)|apply Blk.new|apply Blk.newA|(apply Blk.alloc;first|apply Blk.newA|(apply Blk.alloc;first|assumption|apply Blk.newA)));eq_refl)
|(apply X_cmpT;eq_refl;eq_refl;omega)
|(apply X_len;eq_refl)
|(apply X_index;eq_refl;eq_refl;omega;omega))
        refine WC_draws [(0, true), (1, true), (2, true), (3, true), (4, true), (5, true), (6, true), (7, true), (8, true), (9, true), (10, true), (11, true), (12, true), (13, true), (14, true), (15, true), (16, true), (17, true), (18, true), (19, true), (20, true), (21, true)] (fun W => TolSt w W c h t g D out dn vo) mixed (by kernel_rfl) (by kernel_rfl) ?_
        have hS := hS3.same (Chg.refl w3 none_).dr
        have hdone' := hS.done
        by_cases hcan : CanTell c.ands.length (gateB t c) out i
        · have ha' : a < 0 ∨ (rg c.ands.length a ∧ Sn dn a = true ∧ 0 ≤ a ∧ a < c.ands.length) := by
            rcases ha with ⟨h1, _⟩ | ⟨h1, h2, h3⟩
            · exact .inl h1
            · exact .inr ⟨h1, (hS.mem a h1).2 (hcan.low a ((hmB a).2 (.inl ⟨h2, h3⟩))), hra h1⟩
          have hb' : bb < 0 ∨ (rg c.ands.length bb ∧ Sn dn bb = true ∧ 0 ≤ bb ∧ bb < c.ands.length) := by
            rcases hb with ⟨h1, _⟩ | ⟨h1, h2, h3⟩
            · exact .inl h1
            · exact .inr ⟨h1, (hS.mem bb h1).2 (hcan.low bb ((hmB bb).2 (.inr ⟨h2, h3⟩))), hrb h1⟩
          clear ha hb hmB hfa hfb hra hrb
          have htell : Told c.ands.length (gateB t c) (out ++ [(i : Int)]) := .snoc hS.told hcan fun y hy => by
            rcases Int.lt_or_le y (i : Int) with h1 | h1
            · exact absurd hy (hno y h1)
            · exact h1
          have hsize := htell.size
          simp only [List.length_append, List.length_singleton] at hsize
          rcases ha' with ha' | ⟨ha', hta, ha0, ha1⟩ <;> rcases hb' with hb' | ⟨hb', htb, hb0, hb1⟩
          all_goals
            repeat' (first
|(apply O_loadR;eq_refl;(exact fun _ h => h.box);exact e6;assumption)
|(apply O_loadC;eq_refl;(exact fun W h => cel_chg (hpc 1 _ rfl) h.chg id);assumption)
|(apply O_loadC;eq_refl;(exact fun W h => cel_chg (hpc 2 _ rfl) h.chg id);assumption)
|(apply O_loadR;eq_refl;(exact fun _ h => h.gate);exact hcl;assumption)
|(apply O_loadR;eq_refl;(exact fun _ h => h.gate);exact hcr;assumption)
|(apply X_loadR;eq_refl;exact hdone';(exact hca (by assumption) (by assumption)))
|(apply X_loadR;eq_refl;exact hdone';(exact hcb (by assumption) (by assumption)))
|(apply WC_seqK;intro K hK)
|(apply hK;clear hK)
|(apply WC_region)
|(apply WL_nil)
|(apply thenQ_normal)
|(apply WC_if_true;eq_refl)
|(apply WS_nil)
|(apply WS_next;eq_refl)
|(apply WO_on0;eq_refl)
|(apply O_pv;eq_refl;(first|exact trivial|omega);(first|assumption|exact trivial))
|(apply O_field;eq_refl;(first|assumption|exact trivial))
|(apply O_index;eq_refl;eq_refl;omega;omega;(first|assumption|exact trivial))
|(apply O_indexP;eq_refl;eq_refl;omega;omega;(first|assumption|exact trivial))
|(apply O_fieldP;eq_refl;(first|assumption|exact trivial))
|(apply WL_on0;eq_refl)
|(apply WL_onG;eq_refl;eq_refl;eq_refl;eq_refl)
|(apply WL_noG;eq_refl;eq_refl;eq_refl;eq_refl)
|(apply X_pv;eq_refl;first|exact trivial|omega)
|(apply X_cmpT;eq_refl;eq_refl;omega)
|(apply X_cmpF;eq_refl;eq_refl;omega)
|(apply X_index;eq_refl;eq_refl;omega;omega))
          all_goals
            refine X_doesU (does_store1 (t1 := 4) (b := D) (o := 0 + (i : Int).toNat * 1) (v := .bool true) (by eq_refl) (by eq_refl) hdone' (by simp; omega) rfl rfl) ?_
            have hcc : Chg w3.drew (w3.drew.setRow D ((dn.map Value.bool).set (0 + (i : Int).toNat * 1) (.bool true)).toArray) (fun k => k = D) := Chg.setRow _ _ _ rfl
            have hD2 := hdone'.set ((dn.map Value.bool).set (0 + (i : Int).toNat * 1) (.bool true))
            rw [show (dn.map Value.bool).set (0 + (i : Int).toNat * 1) (.bool true) = (dn.set i true).map Value.bool by rw [Nat.zero_add, Nat.mul_one, List.map_set, Int.toNat_natCast]] at hcc hD2 ⊢
            have hrow2 := own_chg hS.row hcc fun k hk hh => by have := (hS.row.lt k hk).1; omega
            have hbox2 := hS.box.chg hcc (by omega)
            have hgate2 := hS.gate.chg hcc (by omega)
            have hC2 := hS.chg.trans hcc fun k hk hh => by omega
            generalize w3.drew.setRow D ((dn.set i true).map Value.bool).toArray = w4 at *
            repeat' (first
|(apply WC_seqK;intro K hK)
|(apply hK;clear hK)
|(apply WC_region)
|(apply WL_nil)
|(apply thenQ_normal)
|(apply WL_on0;eq_refl)
|(apply X_pv;eq_refl;first|exact trivial|omega)
|(apply X_does;apply buildS22_1 <;> eq_refl))
          all_goals
            refine X_append (D + 1) (by eq_refl) (by eq_refl) (hrow2.alloc _) (Blk.newA w4 _ _) rfl rfl (by decide) (by simp [Value.oneCell']) (by omega) (by decide) (by have := hD2.lt; simp; omega) ?_
            intro vo' w5 hrow5 hC5 _ _
            have hown : ∀ k, vo.ownBlock = some k → D + 1 ≤ k := fun k hk => (hrow2.lt k hk).1
            have hC5' : Chg w w5 none_ := (hC2.al _).trans hC5 fun k hk hh => by have := hown k hh; omega
            have hS5 : TolSt w w5 c h t g D (out ++ [(i : Int)]) (dn.set i true) vo' := by
              refine ⟨hC5', (hbox2.alloc _).chg hC5 fun hh => by have := hown _ hh; omega, (hgate2.alloc _).chg hC5 fun hh => by have := hown _ hh; omega, (hD2.alloc _).chg hC5 fun hh => by have := hown _ hh; omega, by simpa using hrow5, by rw [List.length_set]; exact hsl, htell, fun y hy => ?_⟩
              have hss := Sn_set (sn := dn) (i := (i : Int)) true (by rw [hsl]; exact hri) hy.1
              rw [Int.toNat_natCast] at hss
              rw [hss, List.mem_append, List.mem_singleton]
              split
              · rename_i e; simp [e]
              · rename_i e; rw [hS.mem y hy]; simp [e]
            repeat' (first
|(apply WC_seqK;intro K hK)
|(apply hK;clear hK)
|(apply WC_region)
|(apply WL_nil)
|(apply thenQ_normal)
|(apply thenQ_exit)
|(apply blockQ_hit)
|(apply blockQ_miss;eq_refl)
|(apply blockQ_normal)
|(apply WC_exit)
|(apply WL_on0;eq_refl)
|(apply X_pv;eq_refl;first|exact trivial|omega))
            exact ⟨(out ++ [(i : Int)], dn.set i true, vo', true), ⟨rfl, rfl, rfl, rfl, rfl, trivial⟩, ⟨hS5, fun h => (by cases h)⟩, by simp only [List.length_append, List.length_singleton]; simp; omega⟩
        · have hz : (rg c.ands.length a ∧ Sn dn a = false ∧ 0 ≤ a ∧ a < c.ands.length) ∨ ((a < 0 ∨ (rg c.ands.length a ∧ Sn dn a = true ∧ 0 ≤ a ∧ a < c.ands.length)) ∧ rg c.ands.length bb ∧ Sn dn bb = false ∧ 0 ≤ bb ∧ bb < c.ands.length) := by
            rcases ha with ⟨h1, h1'⟩ | ⟨h1, h2, h3⟩
            · rcases hb with ⟨g1, g1'⟩ | ⟨g1, g2, g3⟩
              · refine absurd ⟨hri, hnew, fun z hz => ?_⟩ hcan
                rcases (hmB z).1 hz with ⟨e, _⟩ | ⟨e, _⟩
                · exact absurd e h1'
                · exact absurd e g1'
              · refine .inr ⟨.inl h1, g1, ?_, hrb g1⟩
                cases hsb : Sn dn bb with
                | false => rfl
                | true =>
                  refine absurd ⟨hri, hnew, fun z hz => ?_⟩ hcan
                  rcases (hmB z).1 hz with ⟨e, _⟩ | ⟨e, e2⟩
                  · exact absurd e h1'
                  · rw [← e2, g3]; exact (hS.mem bb g1).1 hsb
            · cases hsa : Sn dn a with
              | false => exact .inl ⟨h1, rfl, hra h1⟩
              | true =>
                refine .inr ⟨.inr ⟨h1, rfl, hra h1⟩, ?_⟩
                rcases hb with ⟨g1, g1'⟩ | ⟨g1, g2, g3⟩
                · refine absurd ⟨hri, hnew, fun z hz => ?_⟩ hcan
                  rcases (hmB z).1 hz with ⟨e, e2⟩ | ⟨e, _⟩
                  · rw [← e2, h3]; exact (hS.mem a h1).1 hsa
                  · exact absurd e g1'
                · refine ⟨g1, ?_, hrb g1⟩
                  cases hsb : Sn dn bb with
                  | false => rfl
                  | true =>
                    refine absurd ⟨hri, hnew, fun z hz => ?_⟩ hcan
                    rcases (hmB z).1 hz with ⟨e, e2⟩ | ⟨e, e2⟩
                    · rw [← e2, h3]; exact (hS.mem a h1).1 hsa
                    · rw [← e2, g3]; exact (hS.mem bb g1).1 hsb
          clear ha hb hmB hra hrb
          rcases hz with ⟨ha', hta, ha0, ha1⟩ | ⟨ha' | ⟨ha', hta, ha0, ha1⟩, hb', htb, hb0, hb1⟩
          all_goals
            repeat' (first
|(apply O_loadR;eq_refl;(exact fun _ h => h.box);exact e6;assumption)
|(apply O_loadC;eq_refl;(exact fun W h => cel_chg (hpc 1 _ rfl) h.chg id);assumption)
|(apply O_loadC;eq_refl;(exact fun W h => cel_chg (hpc 2 _ rfl) h.chg id);assumption)
|(apply O_loadR;eq_refl;(exact fun _ h => h.gate);exact hcl;assumption)
|(apply O_loadR;eq_refl;(exact fun _ h => h.gate);exact hcr;assumption)
|(apply X_loadR;eq_refl;exact hdone';(exact hca (by assumption) (by assumption)))
|(apply X_loadR;eq_refl;exact hdone';(exact hfa (by assumption) (by assumption)))
|(apply X_loadR;eq_refl;exact hdone';(exact hfb (by assumption) (by assumption)))
|(apply WL_noU;eq_refl;eq_refl;eq_refl)
|(apply WC_seqK;intro K hK)
|(apply hK;clear hK)
|(apply WC_region)
|(apply WL_nil)
|(apply thenQ_normal)
|(apply blockQ_normal)
|(apply WC_skip)
|(apply WC_if_false;eq_refl)
|(apply WS_nil)
|(apply WS_next;eq_refl)
|(apply WO_on0;eq_refl)
|(apply O_pv;eq_refl;(first|exact trivial|omega);(first|assumption|exact trivial))
|(apply O_field;eq_refl;(first|assumption|exact trivial))
|(apply O_index;eq_refl;eq_refl;omega;omega;(first|assumption|exact trivial))
|(apply O_indexP;eq_refl;eq_refl;omega;omega;(first|assumption|exact trivial))
|(apply O_fieldP;eq_refl;(first|assumption|exact trivial))
|(apply WL_on0;eq_refl)
|(apply WL_onG;eq_refl;eq_refl;eq_refl;eq_refl)
|(apply WL_noG;eq_refl;eq_refl;eq_refl;eq_refl)
|(apply X_pv;eq_refl;first|exact trivial|omega)
|(apply X_cmpT;eq_refl;eq_refl;omega)
|(apply X_cmpF;eq_refl;eq_refl;omega)
|(apply X_index;eq_refl;eq_refl;omega;omega))
          all_goals
            refine ⟨i + 1, ⟨rfl, rfl, rfl, rfl, rfl, rfl, trivial⟩, ⟨hS, hlt, fun y hy hc => ?_⟩, by omega⟩
            rcases Int.lt_or_le y (i : Int) with h1 | h1
            · exact hno y h1 hc
            · have : y = i := by omega
              subst this
              exact hcan hc
    · obtain rfl : i = c.ands.length := by omega
      repeat' (first
|(apply WC_seqK;intro K hK)
|(apply hK;clear hK)
|(apply WC_region)
|(apply WL_nil)
|(apply thenQ_normal)
|(apply thenQ_exit)
|(apply blockQ_hit)
|(apply blockQ_normal)
|(apply WC_exit)
|(apply WC_if_false;eq_refl)
|(apply WL_on0;eq_refl)
|(apply X_pv;eq_refl;first|exact trivial|omega)
|(apply X_field;eq_refl)
|(apply X_loadR;eq_refl;(first|assumption|(apply Blk.alloc;assumption)|apply Blk.new|apply Blk.newA|(apply Blk.alloc;first|apply Blk.newA|(apply Blk.alloc;first|assumption|apply Blk.newA)));eq_refl)
|(apply X_cmpF;eq_refl;eq_refl;omega)
|(apply X_len;eq_refl))
      refine ⟨(out, dn, vo, false), ⟨rfl, rfl, rfl, rfl, rfl, trivial⟩, ⟨hS3, fun _ => ⟨hS3.told, fun y hy => hno y hy.rg.2 hy⟩⟩, by simp⟩
end SC
end Go.Proofs.YtclihihdgodloaaDoor
end
section
/- trestleref03: round. -/
set_option linter.unusedVariables false
set_option linter.unusedSimpArgs false
namespace Go.Proofs.YtclihihdgodloaaDoor
namespace SC
open Go.Proofs
/-- The search from a gate, first come first served: i of the list are done. -/
structure Bfs (n : Nat) (B : Int → List Int) (at_ : Int) (l : List Int) (sn : List Bool) (i : Nat) : Prop where
  len : sn.length = n
  head : l[0]? = some at_
  all : ∀ z ∈ l, rg n z ∧ (z = at_ ∨ Hangs B at_ z)
  seen : ∀ z, rg n z → Sn sn z = true → z ∈ l
  done : ∀ j (hj : j < l.length), j < i → ∀ u ∈ B l[j], u ≠ at_ ∧ u ∈ l
  cnt : l.length + sn.count false = n + 1
  le : i ≤ l.length
theorem Bfs.init {n : Nat} {B : Int → List Int} {at_ : Int} (h : rg n at_) : Bfs n B at_ [at_] (List.replicate n false) 0 :=
  ⟨by simp, rfl, fun z hz => by simp at hz; subst hz; exact ⟨h, .inl rfl⟩, fun z _ hz => (by rw [Sn_false] at hz; cases hz), fun j _ hj => absurd hj (Nat.not_lt_zero _), by simp; omega, Nat.zero_le _⟩
theorem Bfs.hangs {n : Nat} {B : Int → List Int} {at_ : Int} {l : List Int} {sn : List Bool} {i : Nat} (h : Bfs n B at_ l sn i) {x u : Int} (hx : x ∈ l) (hu : u ∈ B x) : Hangs B at_ u := by
  rcases (h.all x hx).2 with rfl | hh
  · exact .one hu
  · exact .more hh hu
theorem Bfs.add {n : Nat} {B : Int → List Int} {at_ : Int} {l : List Int} {sn : List Bool} {i : Nat} (h : Bfs n B at_ l sn i) {u : Int} (hr : rg n u) (hh : Hangs B at_ u) (hs : Sn sn u = false) : Bfs n B at_ (l ++ [u]) (sn.set u.toNat true) i := by
  have hul : u.toNat < sn.length := by have := h.len; unfold rg at hr; omega
  have hc : (sn.set u.toNat true).count false + 1 = sn.count false := count_set _ _ (by
    rw [List.getElem?_eq_getElem hul]
    unfold Sn at hs
    simpa [hul] using hs)
  have hpos : 0 < l.length := (List.getElem?_eq_some_iff.1 h.head).1
  have hle := h.le
  refine ⟨by rw [List.length_set]; exact h.len, by rw [List.getElem?_append_left hpos]; exact h.head, fun z hz => ?_, fun z hz hz2 => ?_, fun j hj hji v hv => ?_, ?_, by simp; omega⟩
  · rcases List.mem_append.1 hz with hz | hz
    · exact h.all z hz
    · simp at hz; subst hz; exact ⟨hr, .inr hh⟩
  · rw [Sn_set true (by rw [h.len]; exact hr) hz.1] at hz2
    split at hz2
    · rename_i e; subst e; simp
    · exact List.mem_append_left _ (h.seen z hz hz2)
  · rcases Nat.lt_or_ge j l.length with hjl | hjl
    · rw [List.getElem_append_left hjl] at hv
      obtain ⟨h1, h2⟩ := h.done j hjl hji v hv
      exact ⟨h1, List.mem_append_left _ h2⟩
    · omega
  · have := h.cnt
    rw [List.length_append, List.length_singleton]
    omega
theorem Bfs.next {n : Nat} {B : Int → List Int} {at_ : Int} {l : List Int} {sn : List Bool} {i : Nat} (h : Bfs n B at_ l sn i) (hi : i < l.length) (hu : ∀ u ∈ B l[i], u ≠ at_ ∧ u ∈ l) : Bfs n B at_ l sn (i + 1) :=
  ⟨h.len, h.head, h.all, h.seen, fun j hj hji u hh => by
    rcases Nat.lt_or_ge j i with h1 | h1
    · exact h.done j hj h1 u hh
    · have e : j = i := by omega
      subst e
      exact hu u hh, h.cnt, hi⟩
theorem Bfs.none {n : Nat} {B : Int → List Int} {at_ : Int} {l : List Int} {sn : List Bool} {i : Nat} (h : Bfs n B at_ l sn i) (hi : l.length ≤ i) : ¬ Hangs B at_ at_ := by
  have key : ∀ z, Hangs B at_ z → z ≠ at_ ∧ z ∈ l := fun z hz => by
    have cl : ∀ x ∈ l, ∀ u ∈ B x, u ≠ at_ ∧ u ∈ l := fun x hx u hu => by
      obtain ⟨j, hj, rfl⟩ := List.mem_iff_getElem.1 hx
      exact h.done j hj (by omega) u hu
    generalize hv : at_ = v at hz
    have hat : at_ ∈ l := List.mem_of_getElem? h.head
    induction hz with
    | one h1 => subst hv; exact cl _ hat _ h1
    | more _ h1 ih => subst hv; exact cl _ ih.2 _ h1
  exact fun hh => (key _ hh).1 rfl
theorem Bfs.size {n : Nat} {B : Int → List Int} {at_ : Int} {l : List Int} {sn : List Bool} {i : Nat} (h : Bfs n B at_ l sn i) : l.length ≤ n + 1 := by have := h.cnt; omega
/-- What round keeps in memory. -/
structure RndSt (w W : World) (c : Circ) (h : Hd) (g D : Nat) (l : List Int) (sn : List Bool) (v : Value) : Prop where
  chg : Chg w W none_
  box : Blk W w.heap.size 29 (ccells c h)
  gate : Blk W g 3 ((gatesM c).map nu)
  seen : Blk W D 4 (sn.map Value.bool)
  row : W.ownsRow (D + 1) 3 1 v l.length (l.map nu)
theorem RndSt.same {w W W' : World} {c : Circ} {h : Hd} {g D : Nat} {l : List Int} {sn : List Bool} {v : Value} (S : RndSt w W c h g D l sn v) (hc : Chg W W' none_) : RndSt w W' c h g D l sn v :=
  ⟨S.chg.trans hc fun _ _ h => h, S.box.chg hc id, S.gate.chg hc id, S.seen.chg hc id, own_chg S.row hc fun _ _ => id⟩
section
variable {P : Program} {n : Nat} {all : List Oper} {S : World → Prop} {K : Env → World → Prop} {i : Nat} {r : List (Nat × Bool)} {d : Option Tmp} {ty t : TypeId} {e : Env} {w : World} {td : TypeDesc} {sz by_ : Nat} {zv : Value} {ag : Bool}
theorem O_alloc [T : Ty P t td sz zv by_ ag] (hS : loose .any all.toArray i = false → S (w.alloc (.cells zv.cells t))) (hr : WS P n all S K r (push d (.pointer (some ⟨w.heap.size, 0, none⟩)) e) (w.alloc (.cells zv.cells t))) : OX P n all S K i false r d (.alloc t) ty e w := O_does does_alloc hS hr
end
attribute [local irreducible] WC WL WX WS WO OX Does DoesU Enters CV Pure thenQ blockQ retQ Wants retQC
set_option maxRecDepth 100000
theorem round_cv {w : World} {c : Circ} {h js : Hd} {t : Tab} {g : Nat} {at_ : Int} (H : CirAt w c h js) (hG : Blk w g 3 ((gatesM c).map nu)) (hT : TabOk c t) (hU : UseAll c t) (hm : 0 ≤ c.max ∧ c.max ≤ 16384) (hn : c.ands.length ≤ 16384) (hat : rg c.ands.length at_) :
    CV Tryd.prog 83 [.agg (ccells c h).toArray, .slice (some ⟨g, 0, none⟩) (gatesM c).length (gatesM c).length, nu at_] w fun v w' => ∃ b, v = .bool b ∧ (b = true ↔ Hangs (gateB t c) at_ at_) ∧ Chg w w' none_ := by
  have hI0 : Blk (w.alloc (.cells (ccells c h).toArray 29)) w.heap.size 29 (ccells c h) := Blk.new w _ _
  have hC0 := Chg.alloc w (.cells (ccells c h).toArray 29) none_
  have hgl := gatesM_len c
  have hg0 := hG.lt
  refine enter 79 [6] Tryd.func83 rfl rfl rfl (by decide) rfl ?_
  repeat' (first
|(apply X_make;eq_refl;omega;omega)
|(apply WC_seqK;intro K hK)
|(apply hK;clear hK)
|(apply WC_block)
|(apply WC_region)
|(apply WL_nil)
|(apply thenQ_normal)
|(apply WL_on0;eq_refl)
|(apply X_pv;eq_refl;first|exact trivial|omega)
|(apply X_field;eq_refl)
|(apply X_loadR;eq_refl;(first|assumption|(apply Blk.alloc;assumption)|apply Blk.new|apply Blk.newA|(apply Blk.alloc;first|apply Blk.newA|(apply Blk.alloc;first|assumption|apply Blk.newA)));eq_refl)
|(apply X_len;eq_refl)
|(apply X_box;eq_refl)
|(apply X_does;apply buildS22_1 <;> eq_refl))
  have hz0 := sz_alloc w (.cells (ccells c h).toArray 29)
  have hz1 := sz_alloc (w.alloc (.cells (ccells c h).toArray 29)) (.cells (madeCells (Value.bool false).cells (c.ands.length * 1)) 4)
  have hdm : Blk ((w.alloc (.cells (ccells c h).toArray 29)).alloc (.cells (madeCells (Value.bool false).cells (c.ands.length * 1)) 4)) (w.alloc (.cells (ccells c h).toArray 29)).heap.size 4 ((List.replicate c.ands.length false).map Value.bool) := by
    have e1 : (madeCells (Value.bool false).cells (c.ands.length * 1)).toList = (List.replicate c.ands.length false).map Value.bool := by rw [Nat.mul_one, show (Value.bool false).cells = #[Value.bool false] from rfl, made_one, List.map_replicate]
    have := Blk.newA (w.alloc (.cells (ccells c h).toArray 29)) (madeCells (Value.bool false).cells (c.ands.length * 1)) 4
    rwa [e1] at this
  have hS0 : RndSt w (((w.alloc (.cells (ccells c h).toArray 29)).alloc (.cells (madeCells (Value.bool false).cells (c.ands.length * 1)) 4)).alloc (.cells #[nu at_] 3)) c h g (w.alloc (.cells (ccells c h).toArray 29)).heap.size [at_] (List.replicate c.ands.length false) (.slice (some ⟨((w.alloc (.cells (ccells c h).toArray 29)).alloc (.cells (madeCells (Value.bool false).cells (c.ands.length * 1)) 4)).heap.size, 0, none⟩) 1 1) :=
    ⟨(hC0.al _).al _, (hI0.alloc _).alloc _, ((hG.alloc _).alloc _).alloc _, hdm.alloc _, ⟨by simp, .inr ⟨_, 1, #[nu at_], rfl, by rw [hz1]; exact Nat.le_refl _, heap_alloc_new _ _, Nat.le_refl _, by simp [maxLen], rfl, rfl⟩⟩⟩
  have hDw : w.heap.size < (w.alloc (.cells (ccells c h).toArray 29)).heap.size := by omega
  refine WC_loop (fun s : Nat × List Int × List Bool × Value => [(1, .slice (some ⟨g, 0, none⟩) (gatesM c).length (gatesM c).length), (2, nu at_), (3, pt w.heap.size), (7, .slice (some ⟨(w.alloc (.cells (ccells c h).toArray 29)).heap.size, 0, none⟩) c.ands.length c.ands.length), (8, s.2.2.2), (9, nu s.1)])
    (fun s W => RndSt w W c h g (w.alloc (.cells (ccells c h).toArray 29)).heap.size s.2.1 s.2.2.1 s.2.2.2 ∧ Bfs c.ands.length (gateB t c) at_ s.2.1 s.2.2.1 s.1) (fun s => c.ands.length + 2 - s.1)
    (0, [at_], List.replicate c.ands.length false, .slice (some ⟨((w.alloc (.cells (ccells c h).toArray 29)).alloc (.cells (madeCells (Value.bool false).cells (c.ands.length * 1)) 4)).heap.size, 0, none⟩) 1 1) ⟨rfl, rfl, rfl, rfl, rfl, rfl, trivial⟩ ⟨hS0, .init hat⟩ ?_
  clear hS0 hdm hI0 hC0 hz0 hz1
  generalize (w.alloc (.cells (ccells c h).toArray 29)).heap.size = D at *
  rintro ⟨i, l, sn, vl⟩ w1 ⟨hS1, hB1⟩
  simp only at hS1 hB1
  obtain ⟨A1, cp1, rfl⟩ := row_form' hS1.row
  have hsz := hB1.size
  rcases Nat.lt_or_ge i l.length with hlt | hge
  · obtain ⟨p, rfl, hpc⟩ := (rowI hS1.row).one hlt (v := nu l[i]) rfl
    have hz := hB1.all _ (List.getElem_mem hlt)
    have hnx := hB1.next hlt
    have hlz := List.getElem_mem hlt
    generalize hzz : l[i] = z at *
    obtain ⟨hzr, hzh⟩ := hz
    have hzr' : 0 ≤ z ∧ z < c.ands.length := hzr
    have hzn : z.toNat < c.ands.length := by omega
    obtain ⟨q, hq, hqc⟩ := H.ands z.toNat hzn
    have hx : andAt c z = c.ands[z.toNat] := by unfold andAt; simp [hzn]
    have hle := hT.lit hU hzr (.inl rfl)
    have hri := hT.lit hU hzr (.inr rfl)
    rw [hx] at hle hri
    rw [show ((z.toNat : Nat) : Int) = z by omega] at hqc
    generalize hxx : c.ands[z.toNat] = x at *
    have hmB : ∀ u, u ∈ gateB t c z ↔ (kindAt t (x.2.1 / 2) = 3 ∧ atOf t (x.2.1 / 2) = u) ∨ (kindAt t (x.2.2 / 2) = 3 ∧ atOf t (x.2.2 / 2) = u) := fun u => by
      rw [mem_gateB hzr, hx]
      constructor
      · rintro ⟨l, rfl | rfl, h1, h2⟩
        · exact .inl ⟨h1, h2⟩
        · exact .inr ⟨h1, h2⟩
      · rintro (⟨h1, h2⟩ | ⟨h1, h2⟩)
        · exact ⟨_, .inl rfl, h1, h2⟩
        · exact ⟨_, .inr rfl, h1, h2⟩
    obtain ⟨hl0, hl1, hl2⟩ := hle
    obtain ⟨hr0, hr1, hr2⟩ := hri
    have hcl := L_cell (ls := gatesM c) (y := x.2.1 / 2) (by unfold rg; rw [hgl]; omega)
    have hcr := L_cell (ls := gatesM c) (y := x.2.2 / 2) (by unfold rg; rw [hgl]; omega)
    have hab : ∀ u : Int, 0 ≤ u → (L (gatesM c) (x.2.1 / 2) = u ∨ L (gatesM c) (x.2.2 / 2) = u) → rg c.ands.length u ∧ u ∈ gateB t c z := fun u hu hh => by
      rcases hh with rfl | rfl
      · rcases hl2 with ⟨_, h2, h3, h4⟩ | ⟨_, h2⟩
        · rw [h2]; exact ⟨h3, h4⟩
        · omega
      · rcases hr2 with ⟨_, h2, h3, h4⟩ | ⟨_, h2⟩
        · rw [h2]; exact ⟨h3, h4⟩
        · omega
    have hBab : ∀ u ∈ gateB t c z, 0 ≤ u ∧ (L (gatesM c) (x.2.1 / 2) = u ∨ L (gatesM c) (x.2.2 / 2) = u) := fun u hu => by
      rcases (hmB u).1 hu with ⟨h1, h2⟩ | ⟨h1, h2⟩
      · rcases hl2 with ⟨_, g2, g3, _⟩ | ⟨g1, _⟩
        · unfold rg at g3; exact ⟨by omega, .inl (g2.trans h2)⟩
        · exact absurd h1 g1
      · rcases hr2 with ⟨_, g2, g3, _⟩ | ⟨g1, _⟩
        · unfold rg at g3; exact ⟨by omega, .inr (g2.trans h2)⟩
        · exact absurd h1 g1
    clear hl2 hr2 hmB
    generalize L (gatesM c) (x.2.1 / 2) = a at *
    generalize L (gatesM c) (x.2.2 / 2) = bb at *
    have e6 : (ccells c h)[0 + 8]? = some (.slice (some q) c.ands.length (h 8).2) := by rw [← hq]; rfl
    repeat' (first
|(apply WC_seqK;intro K hK)
|(apply hK;clear hK)
|(apply WC_block)
|(apply WC_region)
|(apply WL_nil)
|(apply thenQ_normal)
|(apply WC_skip)
|(apply WC_if_true;eq_refl)
|(apply WL_on0;eq_refl)
|(apply X_pv;eq_refl;first|exact trivial|omega)
|(apply X_cmpT;eq_refl;eq_refl;omega)
|(apply X_len;eq_refl))
    refine WC_draws [(0, true), (1, true), (2, true), (3, true), (4, true), (5, true), (6, true), (7, true), (8, false), (9, false)] (fun W => Chg w1.drew W none_) mixed (by kernel_rfl) (by kernel_rfl) ?_
    have hS2 := hS1.same (Chg.refl w1 none_).dr
    have hpc2 : w1.drew.cell? _ = _ := hpc
    generalize w1.drew = w2 at *
    have hR := Chg.refl w2 none_
    repeat' (first
|(apply O_loadR;eq_refl;(exact fun _ h => hS2.box.chg h id);exact e6;assumption)
|(apply O_loadC;eq_refl;(exact fun W h => cel_chg hpc2 h id);assumption)
|(apply O_loadAP (tcells x);eq_refl;eq_refl;(exact fun W h j u hj => cel_chg (hqc j u hj) (hS2.chg.trans h fun _ _ h => h) id);assumption)
|(apply O_alloc;exact fun _ => hR.al _)
|(apply WS_next;eq_refl)
|(apply WO_on0;eq_refl)
|(apply O_pv;eq_refl;(first|exact trivial|omega);(first|assumption|exact trivial))
|(apply O_field;eq_refl;(first|assumption|exact trivial))
|(apply O_indexP;eq_refl;eq_refl;omega;omega;(first|assumption|exact trivial)))
    have hcc : Chg w2 ((w2.alloc (.cells #[nu 0, nu 0, nu 0] 61)).setRow w2.heap.size (tcells x).toArray) none_ := (Chg.alloc w2 _ none_).trans (Chg.setRow _ w2.heap.size _ (S := fun k => k = w2.heap.size) rfl) fun k hk h => by omega
    refine O_doesU (does_storeA (t1 := 61) (vs := tcells x) (o := 0) (b := w2.heap.size) (by eq_refl) (by eq_refl) (Blk.newA w2 _ _) rfl (by exact Nat.le_refl 3) (by simp [tcells, Value.oneCell'])) (fun _ => hcc) ?_
    refine WS_turn (fun W => RndSt w W c h g D l sn (.slice (some p) l.length cp1) ∧ Blk W w2.heap.size 61 (tcells x)) ⟨hS2.same hcc, (Blk.newA w2 _ 61).set (tcells x)⟩ ?_
    clear hcc hR hS2 hpc2 hpc hS1
    generalize w2.heap.size = b10 at *
    rintro w3 ⟨hS3, hT3⟩
    repeat' (first
|(apply WC_seqK;intro K hK)
|(apply hK;clear hK)
|(apply thenQ_normal)
|(apply WS_nil))
    skip
    refine WC_draws [(0, true), (1, true), (2, true), (3, true), (4, true), (5, true), (6, true), (7, true), (8, true), (9, true), (10, true), (11, true), (12, true), (13, false), (14, false)] (fun W => Chg w3.drew W none_) mixed (by kernel_rfl) (by kernel_rfl) ?_
    have hS4 := hS3.same (Chg.refl w3 none_).dr
    have hT4 : Blk w3.drew b10 61 (tcells x) := hT3
    generalize w3.drew = w4 at *
    have hR := Chg.refl w4 none_
    repeat' (first
|(apply O_loadR;eq_refl;(exact fun _ h => hT4.chg h id);eq_refl;assumption)
|(apply O_loadR;eq_refl;(exact fun W h => hS4.gate.chg h id);exact hcl;assumption)
|(apply O_loadR;eq_refl;(exact fun W h => hS4.gate.chg h id);exact hcr;assumption)
|(apply O_alloc;exact fun _ => hR.al _)
|(apply WS_next;eq_refl)
|(apply WO_on0;eq_refl)
|(apply O_pv;eq_refl;(first|exact trivial|omega);(first|assumption|exact trivial))
|(apply O_field;eq_refl;(first|assumption|exact trivial))
|(apply O_index;eq_refl;eq_refl;omega;omega;(first|assumption|exact trivial))
|(apply O_pure;apply build148_0_1 <;> eq_refl;(first|assumption|exact trivial)))
    have hcc : Chg w4 ((w4.alloc (.cells #[nu 0, nu 0] 148)).setRow w4.heap.size [nu a, nu bb].toArray) none_ := (Chg.alloc w4 _ none_).trans (Chg.setRow _ w4.heap.size _ (S := fun k => k = w4.heap.size) rfl) fun k hk h => by omega
    refine O_doesU (does_storeA (t1 := 148) (vs := [nu a, nu bb]) (o := 0) (b := w4.heap.size) (by eq_refl) (by eq_refl) (Blk.newA w4 _ _) rfl (by exact Nat.le_refl 2) (by simp [Value.oneCell'])) (fun _ => hcc) ?_
    have hDb := hS4.seen.lt
    refine WS_turn (fun W => RndSt w W c h g D l sn (.slice (some p) l.length cp1) ∧ Blk W w4.heap.size 148 [nu a, nu bb]) ⟨hS4.same hcc, (Blk.newA w4 _ 148).set [nu a, nu bb]⟩ ?_
    clear hcc hR hS4 hS3 hT3 hT4
    generalize w4.heap.size = b11 at *
    rintro w5 ⟨hS5, hP5⟩
    repeat' (first
|(apply WC_seqK;intro K hK)
|(apply hK;clear hK)
|(apply WC_block)
|(apply WC_region)
|(apply WL_nil)
|(apply thenQ_normal)
|(apply WS_nil)
|(apply WL_on0;eq_refl)
|(apply X_pv;eq_refl;first|exact trivial|omega))
    skip
    refine WC_loop (fun s : Nat × List Int × List Bool × Value => [(1, .slice (some ⟨g, 0, none⟩) (gatesM c).length (gatesM c).length), (2, nu at_), (3, pt w.heap.size), (7, .slice (some ⟨D, 0, none⟩) c.ands.length c.ands.length), (8, s.2.2.2), (9, nu i), (11, pt b11), (12, nu s.1)])
      (fun s W => RndSt w W c h g D s.2.1 s.2.2.1 s.2.2.2 ∧ Blk W b11 148 [nu a, nu bb] ∧ Bfs c.ands.length (gateB t c) at_ s.2.1 s.2.2.1 i ∧ s.2.1[i]? = some z ∧ s.1 ≤ 2 ∧ (∀ k < s.1, ∀ v, [a, bb][k]? = some v → 0 ≤ v → v ≠ at_ ∧ v ∈ s.2.1)) (fun s => 2 - s.1)
      (0, l, sn, .slice (some p) l.length cp1) ⟨rfl, rfl, rfl, rfl, rfl, rfl, rfl, rfl, trivial⟩ ⟨hS5, hP5, hB1, by rw [List.getElem?_eq_getElem hlt, hzz], Nat.zero_le _, fun k hk => absurd hk (Nat.not_lt_zero _)⟩ ?_
    clear hS5 hP5 hB1 hsz hnx hlz hzz hlt hzh
    rintro ⟨k, l, sn, vl⟩ w5 ⟨hS5, hP5, hB5, hli, hk, hno⟩
    simp only at hS5 hB5 hli hno hk
    have hsz := hB5.size
    have hlz : z ∈ l := List.mem_of_getElem? hli
    rcases Nat.lt_or_ge k 2 with hlt | hge
    · obtain ⟨v, hv1, hv2, hv3⟩ : ∃ v, [a, bb][k]? = some v ∧ [nu a, nu bb][0 + (k : Int).toNat * 1]? = some (nu v) ∧ (a = v ∨ bb = v) := by
        match k, hlt with
        | 0, _ => exact ⟨a, rfl, rfl, .inl rfl⟩
        | 1, _ => exact ⟨bb, rfl, rfl, .inr rfl⟩
      have hseen := hS5.seen
      have hno' : ∀ {l' : List Int}, (∀ y ∈ l, y ∈ l') → (0 ≤ v → v ≠ at_ ∧ v ∈ l') → ∀ k' < k + 1, ∀ u, [a, bb][k']? = some u → 0 ≤ u → u ≠ at_ ∧ u ∈ l' := fun {l'} hsub hv k' hk' u hu h0 => by
        rcases Nat.lt_or_ge k' k with h1 | h1
        · obtain ⟨g1, g2⟩ := hno k' h1 u hu h0
          exact ⟨g1, hsub _ g2⟩
        · have e : k' = k := by omega
          subst e
          rw [hv1] at hu
          cases hu
          exact hv h0
      by_cases hva : v = at_
      · have h0 : 0 ≤ v := by rw [hva]; exact hat.1
        have hh := hB5.hangs hlz (hab v h0 hv3).2
        rw [hva] at hv2 hh
        repeat' (first
|(apply X_indexA;eq_refl;eq_refl;omega;omega)
|(apply X_loadR;eq_refl;exact hP5;exact hv2)
|(apply WC_seqK;intro K hK)
|(apply hK;clear hK)
|(apply WC_block)
|(apply WC_region)
|(apply WL_nil)
|(apply thenQ_normal)
|(apply thenQ_ret)
|(apply blockQ_ret)
|(apply WC_ret)
|(apply WC_skip)
|(apply WC_if_true;eq_refl)
|(apply ret1;eq_refl)
|(apply WL_on0;eq_refl)
|(apply X_pv;eq_refl;first|exact trivial|omega)
|(apply X_cmpT;eq_refl;eq_refl;omega))
        exact ⟨true, rfl, ⟨fun _ => hh, fun _ => rfl⟩, hS5.chg⟩
      · by_cases h0 : 0 ≤ v
        · obtain ⟨hvr, hvB⟩ := hab v h0 hv3
          have hvr' : 0 ≤ v ∧ v < c.ands.length := hvr
          have hcell := Sn_cell (sn := sn) (z := v) (by rw [hB5.len]; exact hvr)
          cases hsv : Sn sn v with
          | true =>
            rw [hsv] at hcell
            repeat' (first
|(apply X_indexA;eq_refl;eq_refl;omega;omega)
|(apply X_loadR;eq_refl;exact hP5;exact hv2)
|(apply X_loadR;eq_refl;exact hseen;exact hcell)
|(apply WC_seqK;intro K hK)
|(apply hK;clear hK)
|(apply WC_block)
|(apply WC_region)
|(apply WL_nil)
|(apply thenQ_normal)
|(apply blockQ_normal)
|(apply WC_skip)
|(apply WC_if_true;eq_refl)
|(apply WC_if_false;eq_refl)
|(apply WL_on0;eq_refl)
|(apply WL_onG;eq_refl;eq_refl;eq_refl;eq_refl)
|(apply X_pv;eq_refl;first|exact trivial|omega)
|(apply X_cmpT;eq_refl;eq_refl;omega)
|(apply X_cmpF;eq_refl;eq_refl;omega)
|(apply X_index;eq_refl;eq_refl;omega;omega))
            exact ⟨(k + 1, l, sn, vl), ⟨rfl, rfl, rfl, rfl, rfl, rfl, rfl, rfl, trivial⟩, ⟨hS5, hP5, hB5, hli, hlt, hno' (fun _ h => h) fun _ => ⟨hva, hB5.seen v hvr hsv⟩⟩, by simp only; omega⟩
          | false =>
            rw [hsv] at hcell
            have hB6 := hB5.add hvr (hB5.hangs hlz hvB) hsv
            have hsl := hB5.len
            repeat' (first
|(apply X_indexA;eq_refl;eq_refl;omega;omega)
|(apply X_loadR;eq_refl;exact hP5;exact hv2)
|(apply X_loadR;eq_refl;exact hseen;exact hcell)
|(apply WC_seqK;intro K hK)
|(apply hK;clear hK)
|(apply WC_block)
|(apply WC_region)
|(apply WL_nil)
|(apply thenQ_normal)
|(apply WC_skip)
|(apply WC_if_true;eq_refl)
|(apply WC_if_false;eq_refl)
|(apply WL_on0;eq_refl)
|(apply WL_onG;eq_refl;eq_refl;eq_refl;eq_refl)
|(apply X_pv;eq_refl;first|exact trivial|omega)
|(apply X_cmpT;eq_refl;eq_refl;omega)
|(apply X_cmpF;eq_refl;eq_refl;omega)
|(apply X_index;eq_refl;eq_refl;omega;omega))
            refine X_doesU (does_store1 (t1 := 4) (b := D) (o := 0 + v.toNat * 1) (v := .bool true) (by eq_refl) (by eq_refl) hseen (by simp; omega) rfl rfl) ?_
            have hcc : Chg w5 (w5.setRow D ((sn.map Value.bool).set (0 + v.toNat * 1) (.bool true)).toArray) (fun k => k = D) := Chg.setRow _ _ _ rfl
            have hD2 := hseen.set ((sn.map Value.bool).set (0 + v.toNat * 1) (.bool true))
            rw [show (sn.map Value.bool).set (0 + v.toNat * 1) (.bool true) = (sn.set v.toNat true).map Value.bool by rw [Nat.zero_add, Nat.mul_one, List.map_set]] at hcc hD2 ⊢
            have hS6 : RndSt w (w5.setRow D ((sn.set v.toNat true).map Value.bool).toArray) c h g D l (sn.set v.toNat true) vl :=
              ⟨hS5.chg.trans hcc fun k hk hh => by omega, hS5.box.chg hcc (by omega), hS5.gate.chg hcc (by omega), hD2, own_chg hS5.row hcc fun k hk hh => by have := (hS5.row.lt k hk).1; omega⟩
            have hP6 := hP5.chg hcc (by omega)
            clear hcc hD2
            generalize w5.setRow D ((sn.set v.toNat true).map Value.bool).toArray = w6 at *
            repeat' (first
|(apply X_indexA;eq_refl;eq_refl;omega;omega)
|(apply X_loadR;eq_refl;exact hP6;exact hv2)
|(apply hK;clear hK)
|(apply WC_region)
|(apply WL_nil)
|(apply thenQ_normal)
|(apply WL_on0;eq_refl)
|(apply X_pv;eq_refl;first|exact trivial|omega)
|(apply X_does;apply buildS22_1 <;> eq_refl))
            have hrow6 := hS6.row
            refine X_append (D + 1) (by eq_refl) (by eq_refl) (hrow6.alloc _) (Blk.newA w6 _ _) rfl rfl (by decide) (by simp [Value.oneCell']) (by omega) (by decide) (by have := hS6.seen.lt; simp; omega) ?_
            intro vl' w7 hrow7 hC7 _ _
            have hown : ∀ k, vl.ownBlock = some k → D + 1 ≤ k := fun k hk => (hrow6.lt k hk).1
            have hS7 : RndSt w w7 c h g D (l ++ [v]) (sn.set v.toNat true) vl' :=
              ⟨(hS6.chg.al _).trans hC7 fun k hk hh => by have := hown k hh; omega, (hS6.box.alloc _).chg hC7 fun hh => by have := hown _ hh; omega, (hS6.gate.alloc _).chg hC7 fun hh => by have := hown _ hh; omega, (hS6.seen.alloc _).chg hC7 fun hh => by have := hown _ hh; omega, by simpa using hrow7⟩
            have hP7 : Blk w7 b11 148 [nu a, nu bb] := (hP6.alloc (.cells #[nu v] 3)).chg hC7 (own_blk (hrow6.alloc (.cells #[nu v] 3)) (hP6.alloc (.cells #[nu v] 3)) (by decide))
            repeat' (first
|(apply hK;clear hK)
|(apply WC_region)
|(apply WL_nil)
|(apply thenQ_normal)
|(apply blockQ_normal)
|(apply WL_on0;eq_refl)
|(apply X_pv;eq_refl;first|exact trivial|omega))
            have hil : i < l.length := (List.getElem?_eq_some_iff.1 hli).1
            exact ⟨(k + 1, l ++ [v], sn.set v.toNat true, vl'), ⟨rfl, rfl, rfl, rfl, rfl, rfl, rfl, rfl, trivial⟩, ⟨hS7, hP7, hB6, by rw [List.getElem?_append_left hil]; exact hli, hlt, hno' (fun _ h => List.mem_append_left _ h) fun _ => ⟨hva, by simp⟩⟩, by simp only; omega⟩
        · repeat' (first
|(apply X_indexA;eq_refl;eq_refl;omega;omega)
|(apply X_loadR;eq_refl;exact hP5;exact hv2)
|(apply WC_seqK;intro K hK)
|(apply hK;clear hK)
|(apply WC_block)
|(apply WC_region)
|(apply WL_nil)
|(apply thenQ_normal)
|(apply blockQ_normal)
|(apply WC_skip)
|(apply WC_if_true;eq_refl)
|(apply WC_if_false;eq_refl)
|(apply WL_on0;eq_refl)
|(apply WL_noG;eq_refl;eq_refl;eq_refl;eq_refl)
|(apply X_pv;eq_refl;first|exact trivial|omega)
|(apply X_cmpT;eq_refl;eq_refl;omega)
|(apply X_cmpF;eq_refl;eq_refl;omega))
          exact ⟨(k + 1, l, sn, vl), ⟨rfl, rfl, rfl, rfl, rfl, rfl, rfl, rfl, trivial⟩, ⟨hS5, hP5, hB5, hli, hlt, hno' (fun _ h => h) fun h => absurd h h0⟩, by simp only; omega⟩
    · obtain rfl : k = 2 := by omega
      have hil : i < l.length := (List.getElem?_eq_some_iff.1 hli).1
      have hzi : l[i] = z := by rw [List.getElem?_eq_getElem hil] at hli; exact Option.some.inj hli
      have hB6 := hB5.next hil (by
        rw [hzi]
        intro u hu
        obtain ⟨h1, h2⟩ := hBab u hu
        rcases h2 with h2 | h2
        · exact hno 0 (by decide) u (by rw [← h2]; rfl) h1
        · exact hno 1 (by decide) u (by rw [← h2]; rfl) h1)
      repeat' (first
|(apply WC_seqK;intro K hK)
|(apply hK;clear hK)
|(clear hK;apply hK;clear hK)
|(apply WC_region)
|(apply WL_nil)
|(apply thenQ_normal)
|(apply thenQ_exit)
|(apply blockQ_hit)
|(apply blockQ_normal)
|(apply WC_exit)
|(apply WC_if_false;eq_refl)
|(apply WL_on0;eq_refl)
|(apply X_pv;eq_refl;first|exact trivial|omega)
|(apply X_cmpF;eq_refl;eq_refl;omega))
      exact ⟨(i + 1, l, sn, vl), ⟨rfl, rfl, rfl, rfl, rfl, rfl, trivial⟩, ⟨hS5, hB6⟩, by simp only; omega⟩
  · have hnone := hB1.none hge
    repeat' (first
|(apply WC_seqK;intro K hK)
|(apply hK;clear hK)
|(clear hK;apply hK;clear hK)
|(apply WC_region)
|(apply WL_nil)
|(apply thenQ_normal)
|(apply thenQ_exit)
|(apply blockQ_hit)
|(apply WC_ret)
|(apply WC_exit)
|(apply WC_if_false;eq_refl)
|(apply ret1;eq_refl)
|(apply WL_on0;eq_refl)
|(apply X_pv;eq_refl;first|exact trivial|omega)
|(apply X_cmpF;eq_refl;eq_refl;omega)
|(apply X_len;eq_refl))
    exact ⟨false, rfl, ⟨fun h => (by cases h), fun h => absurd h hnone⟩, hS1.chg⟩
end SC
end Go.Proofs.YtclihihdgodloaaDoor
end
section
/- trestleref03: symbols. -/
set_option linter.unusedVariables false
set_option linter.unusedSimpArgs false
namespace Go.Proofs.YtclihihdgodloaaDoor
namespace SC
open Go.Proofs
/-- What is to be shown later: stepping words stop here. -/
structure Later (p : Prop) : Prop where
  get : p
section
variable {P : Program} {n : Nat} {x y r b : Code} {Q : Post} {e : Env} {w : World}
theorem WC_mid (e1 : Env) (I : World → Prop) (h1 : WC P n x (fun s e' w' => s = .normal ∧ Sub e1 e' ∧ I w') e w) (h2 : Later (∀ w', I w' → WC P n y Q e1 w')) : WC P n (.seq x y) Q e w :=
  WC_seq (h1.mono fun s e' w' ⟨hs, hsub, hI⟩ => by subst hs; exact (h2.get w' hI).weaken hsub)
theorem WC_midB (i : Nat) (e1 : Env) (I : World → Prop) (h1 : WC P n (.seq r (.block i b)) (fun s e' w' => s = .normal ∧ Sub e1 e' ∧ I w') e w) (h2 : Later (∀ w', I w' → WC P n y Q e1 w')) : WC P n (.seq (.seq r (.block i b)) y) Q e w := WC_mid e1 I h1 h2
theorem WC_midR (i : Nat) {l : Array Oper} {d : Bool} (e1 : Env) (I : World → Prop) (h1 : WC P n (.region i l d) (fun s e' w' => s = .normal ∧ Sub e1 e' ∧ I w') e w) (h2 : Later (∀ w', I w' → WC P n y Q e1 w')) : WC P n (.seq (.region i l d) y) Q e w := WC_mid e1 I h1 h2
end
/-- How often a thing has a name before. -/
def SymF (ls : List Sym) (i : Nat) (f : Int → Int → Int) : Prop := ∀ p q, 0 ≤ f p q ∧ (0 < f p q ↔ ∃ k, ∃ hk : k < ls.length, k < i ∧ ls[k].kind = p ∧ ls[k].at_ = q)
theorem SymF.next {ls : List Sym} {i : Nat} {f : Int → Int → Int} (h : SymF ls i f) (hi : i < ls.length) : SymF ls (i + 1) (fun p q => if p = ls[i].kind ∧ q = ls[i].at_ then f ls[i].kind ls[i].at_ + 1 else f p q) := fun p q => by
  by_cases hc : p = ls[i].kind ∧ q = ls[i].at_
  · simp only [if_pos hc]
    have := (h ls[i].kind ls[i].at_).1
    exact ⟨by omega, fun _ => ⟨i, hi, by omega, hc.1.symm, hc.2.symm⟩, fun _ => by omega⟩
  · simp only [if_neg hc]
    refine ⟨(h p q).1, fun hh => ?_, fun ⟨k, hk, hki, h1, h2⟩ => ?_⟩
    · obtain ⟨k, hk, hki, h1, h2⟩ := (h p q).2.1 hh
      exact ⟨k, hk, by omega, h1, h2⟩
    · have : k ≠ i := fun e => by subst e; exact hc ⟨h1.symm, h2.symm⟩
      exact (h p q).2.2 ⟨k, hk, by omega, h1, h2⟩
attribute [local irreducible] WC WL WX WS WO OX Does DoesU Enters CV Pure thenQ blockQ retQ Wants retQC
set_option maxRecDepth 100000
theorem symbols82_cv {w : World} {c : Circ} {h js : Hd} (H : CirAt w c h js) (hs : c.Sane) : CV Tryd.prog 84 [.agg (ccells c h).toArray] w fun v w' => v = .tuple #[nu (if 0 ≤ goSym c c.symbols 0 fun _ _ => 0 then goSym c c.symbols 0 fun _ _ => 0 else 0), nu (if 0 ≤ goSym c c.symbols 0 fun _ _ => 0 then 35 else 0)] ∧ Chg w w' none_ := by
  have hN : Blk (w.alloc (.cells (ccells c h).toArray 29)) w.heap.size 29 (ccells c h) := Blk.new w _ _
  have hC := Chg.alloc w (.cells (ccells c h).toArray 29) none_
  have hlens := hs.lens
  refine enter 126 [2, 3] Tryd.func84 rfl rfl rfl (by decide) rfl ?_
  repeat' (first
|(apply WC_seqK;intro K hK)
|(apply hK;clear hK)
|(apply WC_block)
|(apply WC_region)
|(apply WL_nil)
|(apply thenQ_normal)
|(apply WL_on0;eq_refl)
|(apply X_pv;eq_refl;first|exact trivial|omega)
|(apply X_box;eq_refl))
  generalize hr : (goSym c c.symbols 0 fun _ _ => 0) = r
  refine WC_loop (fun s : Nat × (Int → Int → Int) => [(1, pt w.heap.size), (4, nu s.1)])
    (fun s w1 => Chg w w1 none_ ∧ Blk w1 w.heap.size 29 (ccells c h) ∧ SymF c.symbols s.1 s.2 ∧ s.1 ≤ c.symbols.length ∧ goSym c (c.symbols.drop s.1) s.1 s.2 = r) (fun s => c.symbols.length - s.1) (0, fun _ _ => 0) ⟨rfl, rfl, trivial⟩ ⟨hC, hN, fun p q => ⟨Int.le_refl _, fun hh => absurd hh (Int.lt_irrefl 0), fun ⟨k, hk, hki, _⟩ => absurd hki (Nat.not_lt_zero _)⟩, Nat.zero_le _, hr⟩ ?_
  clear hC hN
  rintro ⟨k, f⟩ w1 ⟨hC1, hN1, hf, hk, hgo⟩
  simp only at hf hk hgo
  rcases Nat.lt_or_ge k c.symbols.length with hlt | hge
  · obtain ⟨p, hp, hc⟩ := H.symbols k hlt
    have hbad := fun hb => goSym_bad (c := c) (f := f) hlt hb
    have hokk := fun hb => goSym_ok (c := c) (f := f) hlt hb
    have hfn := hf.next hlt
    have hkind := hs.kinds _ (List.getElem_mem hlt)
    have hnm := hs.names _ (List.getElem_mem hlt)
    generalize hx : c.symbols[k] = s at *
    have e6 : (ccells c h)[0 + 9]? = some (.slice (some p) c.symbols.length (h 9).2) := by rw [← hp]; rfl
    repeat' (first
|(apply X_loadR;eq_refl;exact hN1;exact e6)
|(apply X_loadAP (scells s);eq_refl;eq_refl;exact (fun j u hj => cel_chg (hc j u hj) hC1 id))
|(apply WC_seqK;intro K hK)
|(apply hK;clear hK)
|(apply WC_block)
|(apply WC_region)
|(apply WL_nil)
|(apply thenQ_normal)
|(apply WC_skip)
|(apply WC_if_true;eq_refl)
|(apply WL_on0;eq_refl)
|(apply X_pv;eq_refl;first|exact trivial|omega)
|(apply X_field;eq_refl)
|(apply X_cmpT;eq_refl;eq_refl;omega)
|(apply X_len;eq_refl)
|(apply X_indexP;eq_refl;eq_refl;omega;omega)
|(apply X_alloc))
    refine X_doesU (does_storeA (t1 := 130) (vs := scells s) (o := 0) (b := w1.heap.size) (by eq_refl) (by eq_refl) (Blk.newA w1 _ _) rfl (by exact Nat.le_refl 3) (by simp [scells, Value.oneCell'])) ?_
    have hcc : Chg w1 ((w1.alloc (.cells #[.int .u8 0, nu 0, .string ⟨#[]⟩] 130)).setRow w1.heap.size (scells s).toArray) none_ := (Chg.alloc w1 _ none_).trans (Chg.setRow _ w1.heap.size _ (S := fun k => k = w1.heap.size) rfl) fun k hk h => by omega
    refine WL_turn (fun w2 => Chg w w2 none_ ∧ Blk w2 w.heap.size 29 (ccells c h) ∧ Blk w2 w1.heap.size 130 (scells s)) ⟨hC1.trans hcc fun _ _ h => h, hN1.chg hcc id, (Blk.newA w1 _ 130).set (scells s)⟩ ?_
    clear hcc hC1 hN1
    generalize w1.heap.size = b5
    rintro w2 ⟨hC2, hN2, hS2⟩
    repeat' (first
|(apply WC_midB 2 [(1, pt w.heap.size), (4, nu k), (5, pt b5), (6, nu (manyM c s.kind))] (fun W => W = w2))
|(apply WC_seqK;intro K hK)
|(apply hK;clear hK)
|(apply WC_block)
|(apply WC_region)
|(apply WL_nil)
|(apply thenQ_normal)
|(apply blockQ_normal)
|(apply WC_skip)
|(apply WC_if_true;eq_refl)
|(apply WC_if_false;eq_refl)
|(apply WL_on0;eq_refl)
|(apply X_pv;eq_refl;first|exact trivial|omega)
|(apply X_field;eq_refl)
|(apply X_loadR;eq_refl;(first|assumption|(apply Blk.alloc;assumption)|apply Blk.new|apply Blk.newA|(apply Blk.alloc;first|apply Blk.newA|(apply Blk.alloc;first|assumption|apply Blk.newA)));eq_refl)
|(apply X_cmp;eq_refl;eq_refl;all_goals intro _)
|(apply X_len;eq_refl))
    any_goals (refine ⟨rfl, ⟨rfl, rfl, rfl, congrArg (fun z => some (nu z)) ?_, trivial⟩, rfl⟩; unfold manyM; repeat (first | rw [if_pos (by assumption)] | rw [if_neg (by assumption)]))
    refine ⟨?_⟩
    rintro _ rfl
    obtain ⟨ok0, hok0⟩ : ∃ b : Bool, b = true ↔ (0 ≤ s.at_ ∧ s.at_ < manyM c s.kind ∧ 1 ≤ s.name.size ∧ s.name.size ≤ 64) := ⟨decide _, decide_eq_true_iff⟩
    generalize hM : manyM c s.kind = M at *
    rename_i w2
    repeat' (first
|(apply WC_midR 21 [(1, pt w.heap.size), (4, nu k), (5, pt b5), (7, .bool ok0)] (fun W => W = w2))
|(apply WC_region)
|(apply WL_nil)
|(apply WL_on0;eq_refl)
|(apply WL_onG;eq_refl;eq_refl;eq_refl;eq_refl)
|(apply WL_noG;eq_refl;eq_refl;eq_refl;eq_refl)
|(apply X_pv;eq_refl;first|exact trivial|omega)
|(apply X_field;eq_refl)
|(apply X_loadR;eq_refl;(first|assumption|(apply Blk.alloc;assumption)|apply Blk.new|apply Blk.newA|(apply Blk.alloc;first|apply Blk.newA|(apply Blk.alloc;first|assumption|apply Blk.newA)));eq_refl)
|(apply X_cmp;eq_refl;eq_refl;all_goals intro _)
|(apply X_lenS;eq_refl))
    any_goals (refine ⟨rfl, ⟨rfl, rfl, rfl, congrArg (fun z => some (Value.bool z)) ?_, trivial⟩, rfl⟩; first | (exact (hok0.2 (by omega)).symm) | (exact (Bool.eq_false_iff.2 fun hh => by have := hok0.1 hh; omega).symm))
    refine ⟨?_⟩
    rintro _ rfl
    rename_i w2
    obtain ⟨ok1, hok1⟩ : ∃ b : Bool, b = true ↔ (ok0 = true ∧ ¬ lowName s.name) := by classical exact ⟨decide _, decide_eq_true_iff⟩
    repeat' (first
|(apply WC_midB 3 [(1, pt w.heap.size), (4, nu k), (5, pt b5), (7, .bool ok1)] (fun W => W = w2))
|(apply WC_seqK;intro K hK)
|(apply hK;clear hK)
|(apply WC_block)
|(apply WC_region)
|(apply WL_nil)
|(apply thenQ_normal)
|(apply WL_on0;eq_refl)
|(apply X_pv;eq_refl;first|exact trivial|omega))
    · refine WC_loop (fun q : Nat × Bool => [(1, pt w.heap.size), (4, nu k), (5, pt b5), (7, .bool q.2), (8, nu q.1)])
        (fun q W => W = w2 ∧ q.1 ≤ s.name.size ∧ (q.2 = true → ok0 = true ∧ ∀ i, i < q.1 → ¬ byteAt s.name i < 32) ∧ (q.2 = false → ok0 = false ∨ lowName s.name)) (fun q => s.name.size - q.1) (0, ok0) ⟨rfl, rfl, rfl, rfl, rfl, trivial⟩ ⟨rfl, Nat.zero_le _, fun h => ⟨h, fun i hi => absurd hi (Nat.not_lt_zero _)⟩, fun h => .inl h⟩ ?_
      rintro ⟨j, ok⟩ w3 ⟨rfl, hj, hT, hF⟩
      simp only at hj hT hF
      cases ok with
      | false =>
        have e1 : false = ok1 := (Bool.eq_false_iff.2 fun hh => by
          obtain ⟨h1, h2⟩ := hok1.1 hh
          rcases hF rfl with g | g
          · rw [g] at h1; cases h1
          · exact h2 g).symm
        repeat' (first
|(apply WC_seqK;intro K hK)
|(apply hK;clear hK)
|(apply WC_region)
|(apply WL_nil)
|(apply thenQ_normal)
|(apply thenQ_exit)
|(apply blockQ_hit)
|(apply WC_exit)
|(apply WC_if_false;eq_refl)
|(apply WL_on0;eq_refl)
|(apply WL_noG;eq_refl;eq_refl;eq_refl;eq_refl)
|(apply X_pv;eq_refl;first|exact trivial|omega))
        exact ⟨rfl, ⟨rfl, rfl, rfl, congrArg (fun z => some (Value.bool z)) e1, trivial⟩, rfl⟩
      | true =>
        obtain ⟨hT1, hT2⟩ := hT rfl
        rcases Nat.lt_or_ge j s.name.size with hjl | hjg
        · repeat' (first
|(apply X_idxS;eq_refl;eq_refl;omega)
|(apply WC_seqK;intro K hK)
|(apply hK;clear hK)
|(apply WC_block)
|(apply WC_region)
|(apply WL_nil)
|(apply thenQ_normal)
|(apply blockQ_normal)
|(apply WC_skip)
|(apply WC_if_true;eq_refl)
|(apply WL_on0;eq_refl)
|(apply WL_onG;eq_refl;eq_refl;eq_refl;eq_refl)
|(apply X_pv;eq_refl;first|exact trivial|omega)
|(apply X_field;eq_refl)
|(apply X_loadR;eq_refl;(first|assumption|(apply Blk.alloc;assumption)|apply Blk.new|apply Blk.newA|(apply Blk.alloc;first|apply Blk.newA|(apply Blk.alloc;first|assumption|apply Blk.newA)));eq_refl)
|(apply X_cmpT;eq_refl;eq_refl;omega)
|(apply X_cmp;eq_refl;eq_refl;all_goals intro _)
|(apply X_lenS;eq_refl))
          · rename_i hb9
            have hb9 : 32 ≤ byteAt s.name j := hb9
            exact ⟨(j + 1, true), ⟨rfl, rfl, rfl, rfl, rfl, trivial⟩, ⟨rfl, hjl, fun _ => ⟨hT1, fun i hi => by
              rcases Nat.lt_or_ge i j with hh | hh
              · exact hT2 i hh
              · obtain rfl : i = j := by omega
                omega⟩, fun h => (by cases h)⟩, by simp only; omega⟩
          · rename_i hb9
            have hb9 : ¬ 32 ≤ byteAt s.name j := hb9
            exact ⟨(j + 1, false), ⟨rfl, rfl, rfl, rfl, rfl, trivial⟩, ⟨rfl, hjl, fun h => (by cases h), fun _ => .inr ⟨j, hjl, by omega⟩⟩, by simp only; omega⟩
        · have e1 : true = ok1 := (hok1.2 ⟨hT1, fun ⟨i, hi, hb⟩ => hT2 i (by omega) hb⟩).symm
          repeat' (first
|(apply WC_seqK;intro K hK)
|(apply hK;clear hK)
|(apply WC_region)
|(apply WL_nil)
|(apply thenQ_normal)
|(apply thenQ_exit)
|(apply blockQ_hit)
|(apply WC_exit)
|(apply WC_if_false;eq_refl)
|(apply WL_on0;eq_refl)
|(apply WL_onG;eq_refl;eq_refl;eq_refl;eq_refl)
|(apply X_pv;eq_refl;first|exact trivial|omega)
|(apply X_field;eq_refl)
|(apply X_loadR;eq_refl;(first|assumption|(apply Blk.alloc;assumption)|apply Blk.new|apply Blk.newA|(apply Blk.alloc;first|apply Blk.newA|(apply Blk.alloc;first|assumption|apply Blk.newA)));eq_refl)
|(apply X_cmpF;eq_refl;eq_refl;omega)
|(apply X_lenS;eq_refl))
          exact ⟨rfl, ⟨rfl, rfl, rfl, congrArg (fun z => some (Value.bool z)) e1, trivial⟩, rfl⟩
    refine ⟨?_⟩
    rintro _ rfl
    rename_i w2
    obtain ⟨ok2, hok2⟩ : ∃ b : Bool, b = true ↔ (ok1 = true ∧ ∀ q (hq : q < c.symbols.length), q < k → ¬ (c.symbols[q].kind = s.kind ∧ c.symbols[q].at_ = s.at_)) := by classical exact ⟨decide _, decide_eq_true_iff⟩
    repeat' (first
|(apply WC_midB 5 [(1, pt w.heap.size), (4, nu k), (5, pt b5), (7, .bool ok2)] (fun W => Chg w W none_ ∧ Blk W w.heap.size 29 (ccells c h)))
|(apply WC_seqK;intro K hK)
|(apply hK;clear hK)
|(apply WC_block)
|(apply WC_region)
|(apply WL_nil)
|(apply thenQ_normal)
|(apply WL_on0;eq_refl)
|(apply X_pv;eq_refl;first|exact trivial|omega))
    · refine WC_loop (fun q : Nat × Bool => [(1, pt w.heap.size), (4, nu k), (5, pt b5), (7, .bool q.2), (9, nu q.1)])
        (fun q W => (Chg w W none_ ∧ Blk W w.heap.size 29 (ccells c h) ∧ Blk W b5 130 (scells s)) ∧ q.1 ≤ k ∧ (q.2 = true → ok1 = true ∧ ∀ i (hi : i < c.symbols.length), i < q.1 → ¬ (c.symbols[i].kind = s.kind ∧ c.symbols[i].at_ = s.at_)) ∧ (q.2 = false → ok1 = false ∨ ∃ i, ∃ hi : i < c.symbols.length, i < k ∧ c.symbols[i].kind = s.kind ∧ c.symbols[i].at_ = s.at_)) (fun q => k - q.1) (0, ok1) ⟨rfl, rfl, rfl, rfl, rfl, trivial⟩ ⟨⟨hC2, hN2, hS2⟩, Nat.zero_le _, fun h => ⟨h, fun i _ hi => absurd hi (Nat.not_lt_zero _)⟩, fun h => .inl h⟩ ?_
      rintro ⟨j, ok⟩ w3 ⟨⟨hC3, hN3, hS3⟩, hj, hT, hF⟩
      simp only at hj hT hF
      cases ok with
      | false =>
        have e1 : false = ok2 := (Bool.eq_false_iff.2 fun hh => by
          obtain ⟨h1, h2⟩ := hok2.1 hh
          rcases hF rfl with g | ⟨i, hi, g1, g2⟩
          · rw [g] at h1; cases h1
          · exact h2 i hi g1 g2).symm
        repeat' (first
|(apply WC_seqK;intro K hK)
|(apply hK;clear hK)
|(apply WC_region)
|(apply WL_nil)
|(apply thenQ_normal)
|(apply thenQ_exit)
|(apply blockQ_hit)
|(apply WC_exit)
|(apply WC_if_false;eq_refl)
|(apply WL_on0;eq_refl)
|(apply WL_noG;eq_refl;eq_refl;eq_refl;eq_refl)
|(apply X_pv;eq_refl;first|exact trivial|omega))
        exact ⟨rfl, ⟨rfl, rfl, rfl, congrArg (fun z => some (Value.bool z)) e1, trivial⟩, hC3, hN3⟩
      | true =>
        obtain ⟨hT1, hT2⟩ := hT rfl
        rcases Nat.lt_or_ge j k with hjl | hjg
        · have hjs : j < c.symbols.length := by omega
          obtain ⟨p2, hp2, hc2⟩ := H.symbols j hjs
          rw [hp] at hp2
          cases hp2
          have hT3 := hT2
          generalize hy : c.symbols[j] = y at *
          repeat' (first
|(apply WC_seqK;intro K hK)
|(apply hK;clear hK)
|(apply WC_block)
|(apply WC_region)
|(apply WL_nil)
|(apply thenQ_normal)
|(apply WC_skip)
|(apply WC_if_true;eq_refl)
|(apply WL_on0;eq_refl)
|(apply WL_onG;eq_refl;eq_refl;eq_refl;eq_refl)
|(apply X_pv;eq_refl;first|exact trivial|omega)
|(apply X_cmpT;eq_refl;eq_refl;omega))
          refine WC_draws [(0, true), (1, true), (2, true), (3, true), (4, true), (5, true), (6, true), (7, true), (8, true), (9, true), (10, true), (11, true), (12, true), (13, true), (14, true), (15, true), (16, true), (17, true), (18, true), (19, true), (20, true)] (fun W => Chg w W none_ ∧ Blk W w.heap.size 29 (ccells c h) ∧ Blk W b5 130 (scells s)) mixed (by kernel_rfl) (by kernel_rfl) ?_
          have hS : Chg w w3.drew none_ ∧ Blk w3.drew w.heap.size 29 (ccells c h) ∧ Blk w3.drew b5 130 (scells s) := ⟨hC3.dr, hN3, hS3⟩
          by_cases hkk : y.kind = s.kind
          · by_cases haa : y.at_ = s.at_
            · repeat' (first
|(apply O_loadR;eq_refl;(exact fun _ h => h.2.1);exact e6;assumption)
|(apply O_loadR;eq_refl;(exact fun _ h => h.2.2);eq_refl;assumption)
|(apply O_loadC;eq_refl;(exact fun W h => cel_chg (hc2 0 _ rfl) h.1 id);assumption)
|(apply O_loadC;eq_refl;(exact fun W h => cel_chg (hc2 1 _ rfl) h.1 id);assumption)
|(apply hK;clear hK)
|(apply WC_region)
|(apply WL_nil)
|(apply thenQ_normal)
|(apply blockQ_normal)
|(apply WS_nil)
|(apply WS_next;eq_refl)
|(apply WO_on0;eq_refl)
|(apply WO_onG;eq_refl;eq_refl;eq_refl;eq_refl)
|(apply O_pv;eq_refl;(first|exact trivial|omega);(first|assumption|exact trivial))
|(apply O_field;eq_refl;(first|assumption|exact trivial))
|(apply O_cmpF;eq_refl;eq_refl;omega;(first|assumption|exact trivial))
|(apply O_indexP;eq_refl;eq_refl;omega;omega;(first|assumption|exact trivial))
|(apply O_fieldP;eq_refl;(first|assumption|exact trivial))
|(apply WL_on0;eq_refl)
|(apply X_pv;eq_refl;first|exact trivial|omega))
              exact ⟨(j + 1, false), ⟨rfl, rfl, rfl, rfl, rfl, trivial⟩, ⟨hS, hjl, fun h => (by cases h), fun _ => .inr ⟨j, hjs, hjl, by rw [hy]; exact ⟨hkk, haa⟩⟩⟩, by simp only; omega⟩
            · repeat' (first
|(apply O_loadR;eq_refl;(exact fun _ h => h.2.1);exact e6;assumption)
|(apply O_loadR;eq_refl;(exact fun _ h => h.2.2);eq_refl;assumption)
|(apply O_loadC;eq_refl;(exact fun W h => cel_chg (hc2 0 _ rfl) h.1 id);assumption)
|(apply O_loadC;eq_refl;(exact fun W h => cel_chg (hc2 1 _ rfl) h.1 id);assumption)
|(apply hK;clear hK)
|(apply WC_region)
|(apply WL_nil)
|(apply thenQ_normal)
|(apply blockQ_normal)
|(apply WS_nil)
|(apply WS_next;eq_refl)
|(apply WO_on0;eq_refl)
|(apply WO_onG;eq_refl;eq_refl;eq_refl;eq_refl)
|(apply O_pv;eq_refl;(first|exact trivial|omega);(first|assumption|exact trivial))
|(apply O_field;eq_refl;(first|assumption|exact trivial))
|(apply O_cmpT;eq_refl;eq_refl;omega;(first|assumption|exact trivial))
|(apply O_cmpF;eq_refl;eq_refl;omega;(first|assumption|exact trivial))
|(apply O_indexP;eq_refl;eq_refl;omega;omega;(first|assumption|exact trivial))
|(apply O_fieldP;eq_refl;(first|assumption|exact trivial))
|(apply WL_on0;eq_refl)
|(apply X_pv;eq_refl;first|exact trivial|omega))
              refine ⟨(j + 1, true), ⟨rfl, rfl, rfl, rfl, rfl, trivial⟩, ⟨hS, hjl, fun _ => ⟨hT1, fun i hi hij => ?_⟩, fun h => (by cases h)⟩, by simp only; omega⟩
              rcases Nat.lt_or_ge i j with hh | hh
              · exact hT3 i hi hh
              · obtain rfl : i = j := by omega
                rw [hy]; exact fun hh => haa hh.2
          · repeat' (first
|(apply O_loadR;eq_refl;(exact fun _ h => h.2.1);exact e6;assumption)
|(apply O_loadR;eq_refl;(exact fun _ h => h.2.2);eq_refl;assumption)
|(apply O_loadC;eq_refl;(exact fun W h => cel_chg (hc2 0 _ rfl) h.1 id);assumption)
|(apply hK;clear hK)
|(apply WC_region)
|(apply WL_nil)
|(apply thenQ_normal)
|(apply blockQ_normal)
|(apply WS_nil)
|(apply WS_next;eq_refl)
|(apply WO_on0;eq_refl)
|(apply WO_noG;eq_refl;eq_refl;eq_refl;eq_refl;(first|assumption|exact trivial))
|(apply O_pv;eq_refl;(first|exact trivial|omega);(first|assumption|exact trivial))
|(apply O_field;eq_refl;(first|assumption|exact trivial))
|(apply O_cmpT;eq_refl;eq_refl;omega;(first|assumption|exact trivial))
|(apply O_indexP;eq_refl;eq_refl;omega;omega;(first|assumption|exact trivial))
|(apply O_fieldP;eq_refl;(first|assumption|exact trivial))
|(apply WL_on0;eq_refl)
|(apply X_pv;eq_refl;first|exact trivial|omega))
            refine ⟨(j + 1, true), ⟨rfl, rfl, rfl, rfl, rfl, trivial⟩, ⟨hS, hjl, fun _ => ⟨hT1, fun i hi hij => ?_⟩, fun h => (by cases h)⟩, by simp only; omega⟩
            rcases Nat.lt_or_ge i j with hh | hh
            · exact hT3 i hi hh
            · obtain rfl : i = j := by omega
              rw [hy]; exact fun hh => hkk hh.1
        · have e1 : true = ok2 := (hok2.2 ⟨hT1, fun i hi hik => hT2 i hi (by omega)⟩).symm
          repeat' (first
|(apply WC_seqK;intro K hK)
|(apply hK;clear hK)
|(apply WC_region)
|(apply WL_nil)
|(apply thenQ_normal)
|(apply thenQ_exit)
|(apply blockQ_hit)
|(apply WC_exit)
|(apply WC_if_false;eq_refl)
|(apply WL_on0;eq_refl)
|(apply WL_onG;eq_refl;eq_refl;eq_refl;eq_refl)
|(apply X_pv;eq_refl;first|exact trivial|omega)
|(apply X_cmpF;eq_refl;eq_refl;omega))
          exact ⟨rfl, ⟨rfl, rfl, rfl, congrArg (fun z => some (Value.bool z)) e1, trivial⟩, hC3, hN3⟩
    refine ⟨?_⟩
    rintro w4 ⟨hC4, hN4⟩
    have hsb : ok2 = true ↔ ¬ symBad c f s := by
      rw [hok2, hok1, hok0]
      have hsz : s.name = ByteArray.empty ↔ s.name.size = 0 := ⟨fun h => by rw [h]; rfl, fun h => ByteArray.size_eq_zero_iff.1 h⟩
      have hff : 0 < f s.kind s.at_ ↔ ∃ q, ∃ hq : q < c.symbols.length, q < k ∧ c.symbols[q].kind = s.kind ∧ c.symbols[q].at_ = s.at_ := (hf _ _).2
      unfold symBad
      rw [hM, hff, hsz]
      constructor
      · rintro ⟨⟨⟨h1, h2, h3, h4⟩, h5⟩, h6⟩ (g | g | g | g | ⟨q, hq, g1, g2⟩ | g)
        · omega
        · omega
        · omega
        · omega
        · exact h6 q hq g1 g2
        · exact h5 g
      · intro hb
        refine ⟨⟨⟨?_, ?_, ?_, ?_⟩, fun g => hb (.inr (.inr (.inr (.inr (.inr g)))))⟩, fun q hq g1 g2 => hb (.inr (.inr (.inr (.inr (.inl ⟨q, hq, g1, g2⟩)))))⟩
        · exact Int.not_lt.1 fun g => hb (.inl g)
        · exact Int.not_le.1 fun g => hb (.inr (.inl g))
        · exact Nat.pos_of_ne_zero fun g => hb (.inr (.inr (.inl g)))
        · exact Nat.not_lt.1 fun g => hb (.inr (.inr (.inr (.inl g))))
    cases ok2 with
    | false =>
      have hb : symBad c f s := Classical.byContradiction fun g => by have := hsb.2 g; cases this
      rw [hbad hb] at hgo
      repeat' (first
|(apply WC_seqK;intro K hK)
|(apply hK;clear hK)
|(apply WC_region)
|(apply WL_nil)
|(apply thenQ_normal)
|(apply thenQ_ret)
|(apply blockQ_ret)
|(apply WC_ret)
|(apply WC_if_true;eq_refl)
|(apply ret2;eq_refl;eq_refl)
|(apply WL_on0;eq_refl)
|(apply X_pv;eq_refl;first|exact trivial|omega))
      refine ⟨?_, hC4⟩
      first | rw [if_pos (by omega), if_pos (by omega), hgo] | rw [hr, if_pos (by omega), if_pos (by omega), hgo]
    | true =>
      rw [hokk (hsb.1 rfl)] at hgo
      repeat' (first
|(apply WC_seqK;intro K hK)
|(apply hK;clear hK)
|(apply WC_region)
|(apply WL_nil)
|(apply thenQ_normal)
|(apply blockQ_normal)
|(apply WC_skip)
|(apply WC_if_false;eq_refl)
|(apply WL_on0;eq_refl)
|(apply X_pv;eq_refl;first|exact trivial|omega))
      exact ⟨(k + 1, _), ⟨rfl, rfl, trivial⟩, ⟨hC4, hN4, hfn, hlt, hgo⟩, by simp only; omega⟩
  · rw [List.drop_eq_nil_of_le hge] at hgo
    have e : r = -1 := hgo.symm
    repeat' (first
|(apply WC_seqK;intro K hK)
|(apply hK;clear hK)
|(clear hK;apply hK;clear hK)
|(apply WC_region)
|(apply WL_nil)
|(apply thenQ_normal)
|(apply thenQ_exit)
|(apply blockQ_hit)
|(apply WC_ret)
|(apply WC_exit)
|(apply WC_if_false;eq_refl)
|(apply ret2;eq_refl;eq_refl)
|(apply WL_on0;eq_refl)
|(apply X_pv;eq_refl;first|exact trivial|omega)
|(apply X_field;eq_refl)
|(apply X_loadR;eq_refl;(first|assumption|(apply Blk.alloc;assumption)|apply Blk.new|apply Blk.newA|(apply Blk.alloc;first|apply Blk.newA|(apply Blk.alloc;first|assumption|apply Blk.newA)));eq_refl)
|(apply X_cmpF;eq_refl;eq_refl;omega)
|(apply X_len;eq_refl))
    exact ⟨by rw [hr, e, if_neg (by decide), if_neg (by decide)], hC1⟩
end SC
end Go.Proofs.YtclihihdgodloaaDoor
end
section
/- trestleref03: Check. -/
set_option linter.unusedVariables false
set_option linter.unusedSimpArgs false
namespace Go.Proofs.YtclihihdgodloaaDoor
namespace SC
open Go.Proofs
theorem mem_bytesI {s : ByteArray} {x : Int} : x ∈ bytesI s ↔ ∃ k, k < s.size ∧ byteAt s k = x := by
  have hl : (bytesI s).length = s.size := bytesI_len s
  have hb : ∀ k, byteAt s k = (bytesI s).getD k 0 := fun k => rfl
  constructor
  · intro h
    obtain ⟨k, hk, rfl⟩ := List.mem_iff_getElem.1 h
    exact ⟨k, by omega, by rw [hb]; simp [hk]⟩
  · rintro ⟨k, hk, rfl⟩
    have hk' : k < (bytesI s).length := by omega
    rw [hb, List.getD_eq_getElem?_getD, List.getElem?_eq_getElem hk']
    exact List.getElem_mem hk'
attribute [local irreducible] WC WL WX WS WO OX Does DoesU Enters CV Pure thenQ blockQ retQ Wants retQC
set_option maxRecDepth 100000
theorem checkRef_cv {w : World} {c : Circ} {h js : Hd} (H : CirAt w c h js) (hs : c.Sane) (ho : c.Okay) (hf : c.Fits) : CV Tryd.prog 56 [.agg (ccells c h).toArray] w fun v w' => v = .tuple #[nu (lookM c).1, nu (lookM c).2] ∧ Chg w w' none_ := by
  have hI0 : Blk (w.alloc (.cells (ccells c h).toArray 29)) w.heap.size 29 (ccells c h) := Blk.new w _ _
  have hC0 := Chg.alloc w (.cells (ccells c h).toArray 29) none_
  have hsz := size_cv (H.chg hC0) hf ho
  refine enter 97 [2, 3] Tryd.func56 rfl rfl rfl (by decide) rfl ?_
  repeat' (first
|(apply X_fn;eq_refl;exact hsz;rintro _ w1 ⟨rfl, hC1⟩;have hI1 := hI0.chg hC1 id;have hC1' := hC0.trans hC1 fun _ _ h => h)
|(apply WC_seqK;intro K hK)
|(apply hK;clear hK)
|(apply WC_region)
|(apply WL_nil)
|(apply thenQ_normal)
|(apply thenQ_ret)
|(apply WC_ret)
|(apply WC_skip)
|(apply WC_if_true;eq_refl)
|(apply WC_if_false;eq_refl)
|(apply ret2;eq_refl;eq_refl)
|(apply WL_on0;eq_refl)
|(apply X_pv;eq_refl;first|exact trivial|omega)
|(apply X_loadW;eq_refl;(first|assumption|(apply Blk.alloc;assumption)|apply Blk.new|apply Blk.newA|(apply Blk.alloc;first|apply Blk.newA|(apply Blk.alloc;first|assumption|apply Blk.newA)));eq_refl)
|(apply X_cmp;eq_refl;eq_refl;all_goals intro _)
|(apply X_box;eq_refl))
  · exact ⟨by unfold lookM; rw [if_pos (by assumption)], hC1'⟩
  have hz : sizesM c = 0 := Classical.byContradiction (by assumption)
  obtain ⟨hm0, hm1, hln, hsum⟩ := sizesM_ok hz
  have hdf := defined_cv (H.chg hC1') ho ⟨hm0, hm1⟩
  have hl1 : lookM c = if (definesM c (T0 c)).1.2 ≠ 0 then (definesM c (T0 c)).1
    else if (usesM c (tabM c)).2 ≠ 0 then usesM c (tabM c)
    else if 0 ≤ cycM c.ands.length (gateB (tabM c) c) then (cycM c.ands.length (gateB (tabM c) c), 34)
    else if 0 ≤ goSym c c.symbols 0 (fun _ _ => 0) then (goSym c c.symbols 0 (fun _ _ => 0), 35)
    else if 0 ≤ goCom c.comments 0 then (goCom c.comments 0, 36)
    else (0, 0) := by unfold lookM; rw [if_neg (by assumption)]
  repeat' (first
|(apply X_fn;eq_refl;exact hdf;rintro _ w2 ⟨hC2, ⟨hd, rfl⟩|⟨hd, b, n, hb0, hn, hnl, rfl, hB2⟩⟩)
|(apply WC_seqK;intro K hK)
|(apply hK;clear hK)
|(apply WC_region)
|(apply WL_nil)
|(apply thenQ_normal)
|(apply thenQ_ret)
|(apply WC_ret)
|(apply WC_skip)
|(apply WC_if_true;eq_refl)
|(apply WC_if_false;eq_refl)
|(apply ret2;eq_refl;eq_refl)
|(apply WL_on0;eq_refl)
|(apply X_pv;eq_refl;first|exact trivial|omega)
|(apply X_cmpT;eq_refl;eq_refl;omega)
|(apply X_cmpF;eq_refl;eq_refl;omega))
  · exact ⟨by rw [hl1, if_pos hd], hC1'.trans hC2 fun _ _ h => h⟩
  rw [if_neg (fun hh => hh hd)] at hl1
  have hTO : TabOk c (tabM c) := definesM_spec hm0 hd
  have hC2' := hC1'.trans hC2 fun _ _ h => h
  have hI2 := hI1.chg hC2 id
  have hus := uses_cv' (H.chg hC2') ho ⟨hm0, hm1⟩ hB2 (by rw [hnl]; exact hn) hnl.symm
  repeat' (first
|(apply X_fn;eq_refl;exact hus;rintro _ w3 ⟨rfl, hC3⟩;have hI3 := hI2.chg hC3 id;have hC3' := hC2'.trans hC3 fun _ _ h => h)
|(apply WC_seqK;intro K hK)
|(apply hK;clear hK)
|(apply WC_region)
|(apply WL_nil)
|(apply thenQ_normal)
|(apply thenQ_ret)
|(apply WC_ret)
|(apply WC_skip)
|(apply WC_if_true;eq_refl)
|(apply WC_if_false;eq_refl)
|(apply ret2;eq_refl;eq_refl)
|(apply WL_on0;eq_refl)
|(apply X_pv;eq_refl;first|exact trivial|omega)
|(apply X_loadW;eq_refl;(first|assumption|(apply Blk.alloc;assumption)|apply Blk.new|apply Blk.newA|(apply Blk.alloc;first|apply Blk.newA|(apply Blk.alloc;first|assumption|apply Blk.newA)));eq_refl)
|(apply X_cmp;eq_refl;eq_refl;all_goals intro _))
  · exact ⟨by rw [hl1, if_pos (by assumption)], hC3'⟩
  have hu0 : (usesM c (tabM c)).2 = 0 := Classical.byContradiction (by assumption)
  rw [if_neg (fun hh => hh hu0)] at hl1
  have hUA := usesM_spec.1 hu0
  have hna : c.ands.length ≤ 16384 := by have := hln (c.ands.length : Int) (by simp [Circ.lens]); omega
  have hB := hTO.below hUA
  clear hus hdf hsz hB2
  refine WC_draws [(0, true), (3, true), (4, true), (5, true), (1, false), (2, true), (6, true)] (fun W => Chg w W none_ ∧ Blk W w.heap.size 29 (ccells c h)) mixed (by kernel_rfl) (by kernel_rfl) ?_
  have hS : Chg w w3.drew none_ ∧ Blk w3.drew w.heap.size 29 (ccells c h) := ⟨hC3'.dr, hI3⟩
  have htd := told_cv (H.chg hS.1) hTO hUA ⟨hm0, hm1⟩ hna
  repeat' (first
|(apply O_loadW;eq_refl;(exact fun _ h => h.2);eq_refl;assumption)
|(apply O_loadR;eq_refl;(exact fun _ h => h.2);eq_refl;assumption)
|(apply O_fn;eq_refl;exact htd;rintro v4 w4 ⟨hC4, out, hall, hrow⟩;obtain ⟨A4, cp4, rfl⟩ := row_form' hrow;have hS4 : Chg w w4 none_ ∧ Blk w4 w.heap.size 29 (ccells c h) := ⟨hS.1.trans hC4 fun k hk hh => hh, hS.2.chg hC4 id⟩;have hol := hall.told.size;refine ⟨fun _ => hS4, ?_⟩)
|(apply WC_seqK;intro K hK)
|(apply hK;clear hK)
|(apply WC_region)
|(apply thenQ_normal)
|(apply WC_skip)
|(apply WC_if_true;eq_refl)
|(apply WC_if_false;eq_refl)
|(apply WS_nil)
|(apply WS_next;eq_refl)
|(apply WO_on0;eq_refl)
|(apply O_field;eq_refl;(first|assumption|exact trivial))
|(apply O_cmp;eq_refl;eq_refl;(first|assumption|exact trivial);all_goals intro _)
|(apply O_len;eq_refl;(first|assumption|exact trivial))
|(apply WL_on0;eq_refl))
  all_goals obtain ⟨hC4', hI4⟩ := hS4
  · have hlt0 : out.length < c.ands.length := by omega
    have hgt := gates80_cv (H.chg hC4') hTO ⟨hm0, hm1⟩ hna
    repeat' (first
|(apply X_fn;eq_refl;exact hgt;rintro _ w5 ⟨rfl, hG5, hC5⟩;have hI5 := hI4.chg hC5 id;have hC5' := hC4'.trans hC5 fun _ _ h => h)
|(apply WC_seqK;intro K hK)
|(apply hK;clear hK)
|(apply WC_block)
|(apply WC_region)
|(apply WL_nil)
|(apply thenQ_normal)
|(apply WL_on0;eq_refl)
|(apply X_pv;eq_refl;first|exact trivial|omega)
|(apply X_loadW;eq_refl;(first|assumption|(apply Blk.alloc;assumption)|apply Blk.new|apply Blk.newA|(apply Blk.alloc;first|apply Blk.newA|(apply Blk.alloc;first|assumption|apply Blk.newA)));eq_refl))
    generalize w4.heap.size + 1 = g at *
    refine WC_loop (fun i : Nat => [(1, pt w.heap.size), (10, .slice (some ⟨g, 0, none⟩) (gatesM c).length (gatesM c).length), (11, nu i)])
      (fun i W => Chg w W none_ ∧ Blk W w.heap.size 29 (ccells c h) ∧ Blk W g 3 ((gatesM c).map nu) ∧ i ≤ c.ands.length ∧ ∀ j, rg c.ands.length j → j < (i : Int) → ¬ Hangs (gateB (tabM c) c) j j) (fun i => c.ands.length - i) 0 ⟨rfl, rfl, rfl, trivial⟩ ⟨hC5', hI5, hG5, Nat.zero_le _, fun j hj hj2 => by unfold rg at hj; omega⟩ ?_
    clear hC5' hI5 hG5 hC5 w5
    rintro i w5 ⟨hC5, hI5, hG5, hi, hno⟩
    rcases Nat.lt_or_ge i c.ands.length with hlt | hge
    · have hri : rg c.ands.length (i : Int) := ⟨by omega, by omega⟩
      have hrd := round_cv (H.chg hC5) hG5 hTO hUA ⟨hm0, hm1⟩ hna hri
      repeat' (first
|(apply X_fn;eq_refl;exact hrd;rintro _ w6 ⟨b, rfl, hb6, hC6⟩;have hI6 := hI5.chg hC6 id;have hC6' := hC5.trans hC6 fun _ _ h => h;cases b)
|(apply WC_seqK;intro K hK)
|(apply hK;clear hK)
|(apply WC_block)
|(apply WC_region)
|(apply WL_nil)
|(apply thenQ_normal)
|(apply thenQ_ret)
|(apply blockQ_ret)
|(apply blockQ_normal)
|(apply WC_ret)
|(apply WC_skip)
|(apply WC_if_true;eq_refl)
|(apply WC_if_false;eq_refl)
|(apply ret2;eq_refl;eq_refl)
|(apply WL_on0;eq_refl)
|(apply X_pv;eq_refl;first|exact trivial|omega)
|(apply X_field;eq_refl)
|(apply X_loadR;eq_refl;(first|assumption|(apply Blk.alloc;assumption)|apply Blk.new|apply Blk.newA|(apply Blk.alloc;first|apply Blk.newA|(apply Blk.alloc;first|assumption|apply Blk.newA)));eq_refl)
|(apply X_loadW;eq_refl;(first|assumption|(apply Blk.alloc;assumption)|apply Blk.new|apply Blk.newA|(apply Blk.alloc;first|apply Blk.newA|(apply Blk.alloc;first|assumption|apply Blk.newA)));eq_refl)
|(apply X_cmpT;eq_refl;eq_refl;omega)
|(apply X_len;eq_refl))
      · refine ⟨i + 1, ⟨rfl, rfl, rfl, trivial⟩, ⟨hC6', hI6, hG5.chg hC6 id, hlt, fun j hj hji hh => ?_⟩, by omega⟩
        rcases Int.lt_or_le j (i : Int) with h1 | h1
        · exact hno j hj h1 hh
        · have : j = i := by omega
          subst this
          have := hb6.2 hh
          cases this
      · have hcy : CycOf c.ands.length (gateB (tabM c) c) (i : Int) := ⟨out, hall, .inr ⟨hlt0, hri, hb6.1 rfl, hno⟩⟩
        rw [cycM_eq hcy, if_pos (by omega)] at hl1
        exact ⟨by rw [hl1], hC6'⟩
    · obtain ⟨j, hj, hh⟩ := hall.round hB hlt0
      exact absurd hh (hno j hj (by unfold rg at hj; omega))
  have hcy : CycOf c.ands.length (gateB (tabM c) c) (-1) := ⟨out, hall, .inl ⟨by omega, rfl⟩⟩
  rw [cycM_eq hcy, if_neg (by decide)] at hl1
  have hsy := symbols82_cv (H.chg hC4') hs
  by_cases hgs : 0 ≤ goSym c c.symbols 0 fun _ _ => 0
  · rw [if_pos hgs, if_pos hgs] at hsy
    rw [if_pos hgs] at hl1
    repeat' (first
|(apply X_fn;eq_refl;exact hsy;rintro _ w5 ⟨rfl, hC5⟩)
|(apply WC_seqK;intro K hK)
|(apply hK;clear hK)
|(apply WC_region)
|(apply WL_nil)
|(apply thenQ_normal)
|(apply thenQ_ret)
|(apply WC_ret)
|(apply WC_if_true;eq_refl)
|(apply ret2;eq_refl;eq_refl)
|(apply WL_on0;eq_refl)
|(apply X_pv;eq_refl;first|exact trivial|omega)
|(apply X_loadW;eq_refl;(first|assumption|(apply Blk.alloc;assumption)|apply Blk.new|apply Blk.newA|(apply Blk.alloc;first|apply Blk.newA|(apply Blk.alloc;first|assumption|apply Blk.newA)));eq_refl)
|(apply X_cmpT;eq_refl;eq_refl;omega))
    exact ⟨by rw [hl1], hC4'.trans hC5 fun _ _ h => h⟩
  rw [if_neg hgs, if_neg hgs] at hsy
  rw [if_neg hgs] at hl1
  repeat' (first
|(apply X_fn;eq_refl;exact hsy;rintro _ w5 ⟨rfl, hC5⟩;have hI5 := hI4.chg hC5 id;have hC5' := hC4'.trans hC5 fun _ _ h => h)
|(apply WC_seqK;intro K hK)
|(apply hK;clear hK)
|(apply WC_block)
|(apply WC_region)
|(apply WL_nil)
|(apply thenQ_normal)
|(apply WC_skip)
|(apply WC_if_false;eq_refl)
|(apply WL_on0;eq_refl)
|(apply X_pv;eq_refl;first|exact trivial|omega)
|(apply X_loadW;eq_refl;(first|assumption|(apply Blk.alloc;assumption)|apply Blk.new|apply Blk.newA|(apply Blk.alloc;first|apply Blk.newA|(apply Blk.alloc;first|assumption|apply Blk.newA)));eq_refl)
|(apply X_cmpF;eq_refl;eq_refl;omega))
  have hkl := hs.lens.2.2.2.2.2.2.2.2.2
  have htx := hs.texts
  refine WC_loop (fun i : Nat => [(1, pt w.heap.size), (14, nu i)]) (fun i W => Chg w W none_ ∧ Blk W w.heap.size 29 (ccells c h) ∧ i ≤ c.comments.length ∧ goCom (c.comments.drop i) i = goCom c.comments 0) (fun i => c.comments.length - i) 0 ⟨rfl, rfl, trivial⟩ ⟨hC5', hI5, Nat.zero_le _, rfl⟩ ?_
  clear hsy hC5' hI5 hC5 w5
  rintro i w5 ⟨hC5, hI5, hi, hgo⟩
  rcases Nat.lt_or_ge i c.comments.length with hlt | hge
  · obtain ⟨p, hp, hpc⟩ := (H.chg hC5).comments.one hlt (v := .string c.comments[i]) rfl
    rw [goCom_step hlt] at hgo
    have htl := htx _ (List.getElem_mem hlt)
    generalize hx : c.comments[i] = s at *
    have e6 : (ccells c h)[0 + 10]? = some (.slice (some p) c.comments.length (h 10).2) := by rw [← hp]; rfl
    repeat' (first
|(apply WC_seqK;intro K hK)
|(apply hK;clear hK)
|(apply WC_block)
|(apply WC_region)
|(apply WL_nil)
|(apply thenQ_normal)
|(apply WC_skip)
|(apply WC_if_true;eq_refl)
|(apply WL_on0;eq_refl)
|(apply X_pv;eq_refl;first|exact trivial|omega)
|(apply X_field;eq_refl)
|(apply X_loadR;eq_refl;(first|assumption|(apply Blk.alloc;assumption)|apply Blk.new|apply Blk.newA|(apply Blk.alloc;first|apply Blk.newA|(apply Blk.alloc;first|assumption|apply Blk.newA)));eq_refl)
|(apply X_cmpT;eq_refl;eq_refl;omega)
|(apply X_len;eq_refl))
    refine WC_loop (fun k : Nat => [(1, pt w.heap.size), (14, nu i), (15, nu k)]) (fun k W => W = w5 ∧ k ≤ s.size ∧ ∀ j, j < k → byteAt s j ≠ 10) (fun k => s.size - k) 0 ⟨rfl, rfl, rfl, trivial⟩ ⟨rfl, Nat.zero_le _, fun j hj => absurd hj (Nat.not_lt_zero _)⟩ ?_
    rintro k w6 ⟨rfl, hk, hall10⟩
    rcases Nat.lt_or_ge k s.size with hkl2 | hkg
    · repeat' (first
|(apply X_loadR;eq_refl;exact hI5;exact e6)
|(apply X_loadC;eq_refl;exact hpc)
|(apply X_idxS;eq_refl;eq_refl;omega)
|(apply WC_seqK;intro K hK)
|(apply hK;clear hK)
|(apply WC_block)
|(apply WC_region)
|(apply WL_nil)
|(apply thenQ_normal)
|(apply thenQ_ret)
|(apply blockQ_ret)
|(apply blockQ_normal)
|(apply WC_ret)
|(apply WC_skip)
|(apply WC_if_true;eq_refl)
|(apply WC_if_false;eq_refl)
|(apply ret2;eq_refl;eq_refl)
|(apply WL_on0;eq_refl)
|(apply X_pv;eq_refl;first|exact trivial|omega)
|(apply X_field;eq_refl)
|(apply X_cmpT;eq_refl;eq_refl;omega)
|(apply X_cmp;eq_refl;eq_refl;all_goals intro _)
|(apply X_lenS;eq_refl)
|(apply X_indexP;eq_refl;eq_refl;omega;omega))
      · rw [if_pos (mem_bytesI.2 ⟨k, hkl2, by assumption⟩)] at hgo
        rw [← hgo, if_pos (by omega)] at hl1
        exact ⟨by rw [hl1], hC5⟩
      · exact ⟨k + 1, ⟨rfl, rfl, rfl, trivial⟩, ⟨rfl, hkl2, fun j hj => by
          rcases Nat.lt_or_ge j k with h1 | h1
          · exact hall10 j h1
          · have : j = k := by omega
            subst this
            assumption⟩, by omega⟩
    · rw [if_neg (fun hh => by
        obtain ⟨j, hj, hj2⟩ := mem_bytesI.1 hh
        exact hall10 j (by omega) hj2)] at hgo
      repeat' (first
|(apply X_loadR;eq_refl;exact hI5;exact e6)
|(apply X_loadC;eq_refl;exact hpc)
|(apply WC_seqK;intro K hK)
|(apply hK;clear hK)
|(clear hK;apply hK;clear hK)
|(apply WC_region)
|(apply WL_nil)
|(apply thenQ_normal)
|(apply thenQ_exit)
|(apply blockQ_hit)
|(apply blockQ_normal)
|(apply WC_exit)
|(apply WC_if_false;eq_refl)
|(apply WL_on0;eq_refl)
|(apply X_pv;eq_refl;first|exact trivial|omega)
|(apply X_field;eq_refl)
|(apply X_cmpF;eq_refl;eq_refl;omega)
|(apply X_lenS;eq_refl)
|(apply X_indexP;eq_refl;eq_refl;omega;omega))
      exact ⟨i + 1, ⟨rfl, rfl, trivial⟩, ⟨hC5, hI5, hlt, hgo⟩, by omega⟩
  · rw [List.drop_eq_nil_of_le hge] at hgo
    rw [← hgo, if_neg (by simp [goCom])] at hl1
    repeat' (first
|(apply WC_seqK;intro K hK)
|(apply hK;clear hK)
|(clear hK;apply hK;clear hK)
|(apply WC_region)
|(apply WL_nil)
|(apply thenQ_normal)
|(apply thenQ_exit)
|(apply blockQ_hit)
|(apply WC_ret)
|(apply WC_exit)
|(apply WC_if_false;eq_refl)
|(apply ret2;eq_refl;eq_refl)
|(apply WL_on0;eq_refl)
|(apply X_pv;eq_refl;first|exact trivial|omega)
|(apply X_field;eq_refl)
|(apply X_loadR;eq_refl;(first|assumption|(apply Blk.alloc;assumption)|apply Blk.new|apply Blk.newA|(apply Blk.alloc;first|apply Blk.newA|(apply Blk.alloc;first|assumption|apply Blk.newA)));eq_refl)
|(apply X_cmpF;eq_refl;eq_refl;omega)
|(apply X_len;eq_refl))
    exact ⟨by rw [hl1], hC5⟩
theorem orderRef_cv {w : World} {c : Circ} {h js : Hd} (H : CirAt w c h js) (hs : c.Sane) (ho : c.Okay) (hf : c.Fits) : CV Tryd.prog 57 [.agg (ccells c h).toArray] w fun v w' => Chg w w' none_ ∧
    (((lookM c).2 ≠ 0 ∧ v = .tuple #[.slice none 0 0, nu (lookM c).2]) ∨ ((lookM c).2 = 0 ∧ ∃ out u, v = .tuple #[u, nu 0] ∧ All c.ands.length (gateB (tabM c) c) out ∧ w'.ownsRow w.heap.size 3 1 u out.length (out.map nu))) := by
  have hI0 : Blk (w.alloc (.cells (ccells c h).toArray 29)) w.heap.size 29 (ccells c h) := Blk.new w _ _
  have hC := Chg.alloc w (.cells (ccells c h).toArray 29) none_
  have hck := checkRef_cv (H.chg hC) hs ho hf
  refine enter 16 [2, 3] Tryd.func57 rfl rfl rfl (by decide) rfl ?_
  by_cases he : (lookM c).2 = 0
  · obtain ⟨hle, hsz, hd, hu, _⟩ := lookM_ok he
    obtain ⟨hm0, hm1, hln, hsum⟩ := sizesM_ok hsz
    have hTO : TabOk c (tabM c) := definesM_spec hm0 hd
    have hUA := usesM_spec.1 hu
    have hna : c.ands.length ≤ 16384 := by have := hln (c.ands.length : Int) (by simp [Circ.lens]); omega
    rw [he] at hck
    have htd := fun (W : World) (hW : Chg w W none_) => told_cv (H.chg hW) hTO hUA ⟨hm0, hm1⟩ hna
    repeat' (first
|(apply X_fn;eq_refl;exact hck;rintro _ w1 ⟨rfl, hC1⟩;have hI1 := hI0.chg hC1 id;have hC1' := hC.trans hC1 fun _ _ h => h)
|(apply X_fn;eq_refl;exact htd _ hC1';rintro v2 w2 ⟨hC2, out, hall, hrow⟩)
|(apply WC_seqK;intro K hK)
|(apply hK;clear hK)
|(apply WC_region)
|(apply WL_nil)
|(apply thenQ_normal)
|(apply WC_ret)
|(apply WC_skip)
|(apply WC_if_false;eq_refl)
|(apply ret2;eq_refl;eq_refl)
|(apply WL_on0;eq_refl)
|(apply X_pv;eq_refl;first|exact trivial|omega)
|(apply X_loadW;eq_refl;(first|assumption|(apply Blk.alloc;assumption)|apply Blk.new|apply Blk.newA|(apply Blk.alloc;first|apply Blk.newA|(apply Blk.alloc;first|assumption|apply Blk.newA)));eq_refl)
|(apply X_cmpF;eq_refl;eq_refl;omega)
|(apply X_box;eq_refl))
    have hs1 := hC1'.size
    exact ⟨hC1'.trans hC2 fun _ _ h => h, .inr ⟨he, out, v2, rfl, hall, own_mono hrow hs1⟩⟩
  · repeat' (first
|(apply X_fn;eq_refl;exact hck;rintro _ w1 ⟨rfl, hC1⟩;have hI1 := hI0.chg hC1 id;have hC1' := hC.trans hC1 fun _ _ h => h)
|(apply WC_seqK;intro K hK)
|(apply hK;clear hK)
|(apply WC_region)
|(apply WL_nil)
|(apply thenQ_normal)
|(apply thenQ_ret)
|(apply WC_ret)
|(apply WC_if_true;eq_refl)
|(apply ret2;eq_refl;eq_refl)
|(apply WL_on0;eq_refl)
|(apply X_pv;eq_refl;first|exact trivial|omega)
|(apply X_loadW;eq_refl;(first|assumption|(apply Blk.alloc;assumption)|apply Blk.new|apply Blk.newA|(apply Blk.alloc;first|apply Blk.newA|(apply Blk.alloc;first|assumption|apply Blk.newA)));eq_refl)
|(apply X_cmpT;eq_refl;eq_refl;omega)
|(apply X_box;eq_refl))
    exact ⟨hC1', .inl ⟨he, rfl⟩⟩
end SC
end Go.Proofs.YtclihihdgodloaaDoor
end
section
/- The order of a right circuit; trestleref07: Next0, Starts0, Values0. -/
set_option linter.unusedVariables false
set_option linter.unusedSimpArgs false
namespace Go.Proofs.YtclihihdgodloaaDoor
namespace SC
open Go.Proofs
theorem ownsRow_low {w : World} {base : Nat} {t : TypeId} {sz n : Nat} {v : Value} {xs : List Value} (h : w.ownsRow base t sz v n xs) : w.ownsRow 0 t sz v n xs := ⟨h.1, h.2.imp id fun ⟨g, cap, cur, h1, _, h2⟩ => ⟨g, cap, cur, h1, Nat.zero_le _, h2⟩⟩
/-- A new row of its own, as an entry. -/
theorem own_vec {α : Type} {enc : α → List Value} {sz : Nat} {w w' : World} {t : TypeId} {u : Value} {l : List α} (h : w'.ownsRow w.heap.size t sz u l.length (l.flatMap enc)) (hc : Chg w w' none_) : ∃ A k, u = .slice A l.length k ∧ Mem w' ([.vec enc sz t A k l] ++ [.old w none_]) := by
  obtain ⟨A, k, rfl⟩ := row_form' h
  refine ⟨A, k, rfl, Mem.join (.one (ownsRow_low h)) (.one hc) fun j ⟨E, hE, h1⟩ ⟨F, hF, h2⟩ => ?_⟩
  simp only [List.mem_singleton] at hE hF
  subst hE hF
  have := (World.ownsRow.lt h j h1).1
  have := h2.1
  omega
/-- The order of its gates. -/
noncomputable def ordM (c : Circ) : List Int := by classical exact if h : ∃ out, All c.ands.length (gateB (tabM c) c) out then h.choose else []
theorem ordM_eq {c : Circ} {out : List Int} (h : All c.ands.length (gateB (tabM c) c) out) : ordM c = out := by
  have hex : ∃ out, All c.ands.length (gateB (tabM c) c) out := ⟨out, h⟩
  unfold ordM
  rw [dif_pos hex]
  exact All.only hex.choose_spec h
/-- What Order answers. -/
def OrdR (c : Circ) (v : Value) (N : Mm) : Prop :=
  ((lookM c).2 ≠ 0 ∧ v = .tuple #[.slice none 0 0, nu (lookM c).2] ∧ N = []) ∨ ((lookM c).2 = 0 ∧ ∃ A k, v = .tuple #[.slice A (ordM c).length k, nu 0] ∧ N = [.vec icell 1 3 A k (ordM c)])
theorem OrderG {w : World} {c : Circ} {h js : Hd} (H : CirAt w c h js) (hs : c.Sane) : CVN Tryd.prog 75 [.agg (ccells c h).toArray] w (OrdR c) := CV.mono (Order_cv H hs) fun v w' ⟨hc, hv⟩ => by
  rcases hv with ⟨h1, rfl⟩ | ⟨h1, out, u, rfl, h2, h3, h4⟩
  · exact ⟨[], .one hc, .inl ⟨h1, rfl, rfl⟩⟩
  · rw [← flat_icell] at h4
    obtain ⟨A, k, rfl, M⟩ := own_vec h4 hc
    rw [← ordM_eq h2] at M ⊢
    exact ⟨_, M, .inr ⟨h1, A, k, rfl, rfl⟩⟩
theorem OrderRefG {w : World} {c : Circ} {h js : Hd} (H : CirAt w c h js) (hs : c.Sane) (ho : c.Okay) (hf : c.Fits) : CVN Tryd.prog 57 [.agg (ccells c h).toArray] w (OrdR c) := CV.mono (orderRef_cv H hs ho hf) fun v w' ⟨hc, hv⟩ => by
  rcases hv with ⟨h1, rfl⟩ | ⟨h1, out, u, rfl, h2, h4⟩
  · exact ⟨[], .one hc, .inl ⟨h1, rfl, rfl⟩⟩
  · rw [← flat_icell] at h4
    obtain ⟨A, k, rfl, M⟩ := own_vec h4 hc
    rw [← ordM_eq h2] at M ⊢
    exact ⟨_, M, .inr ⟨h1, A, k, rfl, rfl⟩⟩
/-! ### a row that is filled from the left -/
def fillL {α β : Type} (f : α → β) (l : List α) (z : β) (i : Nat) : List β := (l.take i).map f ++ List.replicate (l.length - i) z
theorem fillL_len {α β : Type} {f : α → β} {l : List α} {z : β} {i : Nat} (h : i ≤ l.length) : (fillL f l z i).length = l.length := by unfold fillL; simp; omega
theorem fillL_0 {α β : Type} {f : α → β} {l : List α} {z : β} : fillL f l z 0 = List.replicate l.length z := by unfold fillL; simp
theorem fillL_all {α β : Type} {f : α → β} {l : List α} {z : β} {i : Nat} (h : l.length ≤ i) : fillL f l z i = l.map f := by unfold fillL; rw [List.take_of_length_le h, show l.length - i = 0 by omega]; simp
theorem fillL_set {α β : Type} [Inhabited α] {f : α → β} {l : List α} {z : β} {i : Nat} (h : i < l.length) : (fillL f l z i).set (i : Int).toNat (f (gt l (i : Int))) = fillL f l z (i + 1) := by
  unfold fillL
  rw [gt_nat h, Int.toNat_natCast, List.set_append_right _ _ (by simp; omega)]
  have e1 : i - ((l.take i).map f).length = 0 := by simp; omega
  have e2 : l.length - i = (l.length - (i + 1)) + 1 := by omega
  rw [e1, e2, List.replicate_succ, List.set_cons_zero, List.take_succ_eq_append_getElem h, List.map_append]
  simp
/-- Next, by the values. -/
def nxtM (c : Circ) (v : List Bool) : List Bool := c.latches.map fun x => lv v x.2.1
attribute [local irreducible] WC WL WX WS WO OX Does DoesU Enters CV Pure thenQ blockQ retQ Wants retQC GC GL GS GX RdB thenG blockG retG Rd At gt CVN CVM
set_option maxRecDepth 100000
end SC
end Go.Proofs.YtclihihdgodloaaDoor
end
section
/- A right circuit; its values. trestleref07: Starts0, Values0. -/
set_option linter.unusedVariables false
set_option linter.unusedSimpArgs false
namespace Go.Proofs.YtclihihdgodloaaDoor
namespace SC
open Go.Proofs
theorem CV.ex {P : Program} {f : FuncId} {args : List Value} {w : World} {R : Value → World → Prop} (h : CV P f args w R) : ∃ v w', R v w' := by
  obtain ⟨e, w', fr, h1, _⟩ := h []
  cases e with
  | returned v => exact ⟨v, w', h1⟩
  | panicked c => exact h1.elim
  | outgrown => exact h1.elim
/-- What is so of a right circuit. -/
structure Right (c : Circ) : Prop where
  tab : TabOk c (tabM c)
  use : UseAll c (tabM c)
  m0 : 0 ≤ c.max
  m1 : c.max ≤ 16384
  lens : ∀ n ∈ c.lens, n ≤ 16384
  sum : sumW c.justice ≤ 16384
  all : All c.ands.length (gateB (tabM c) c) (ordM c)
  ordLen : (ordM c).length = c.ands.length
theorem right_of {w : World} {c : Circ} {h js : Hd} (H : CirAt w c h js) (hs : c.Sane) (he : (lookM c).2 = 0) : Right c := by
  obtain ⟨v, w', _, hv⟩ := CV.ex (Order_cv H hs)
  rcases hv with ⟨h1, _⟩ | ⟨_, out, u, _, h2, h3, _⟩
  · exact absurd he h1
  · obtain ⟨_, g1, g2, g3, _⟩ := lookM_ok he
    obtain ⟨k1, k2, k3, k4⟩ := sizesM_ok g1
    have e1 := ordM_eq h2
    exact ⟨definesM_spec k1 g2, usesM_spec.1 g3, k1, k2, k3, k4, by rw [e1]; exact h2, by rw [e1]; exact h3⟩
def inR (c : Circ) (l : Int) : Prop := 0 ≤ l ∧ l ≤ 2 * c.max + 1
def defR (c : Circ) (l : Int) : Prop := 2 ≤ l ∧ l ≤ 2 * c.max ∧ l % 2 = 0
section
variable {c : Circ} (R : Right c)
include R
theorem Right.nIn : c.inputs.length ≤ 16384 := by have := R.lens c.inputs.length (by simp [Circ.lens]); omega
theorem Right.nLat : c.latches.length ≤ 16384 := by have := R.lens c.latches.length (by simp [Circ.lens]); omega
theorem Right.nAnd : c.ands.length ≤ 16384 := by have := R.lens c.ands.length (by simp [Circ.lens]); omega
theorem Right.inp {l : Int} (h : l ∈ c.inputs) : defR c l := by
  obtain ⟨j, hj, rfl⟩ := List.mem_iff_getElem.1 h
  have := (R.tab.inp j hj).1
  unfold defBad at this; unfold defR; omega
theorem Right.lat {x : Tri} (h : x ∈ c.latches) : defR c x.1 ∧ inR c x.2.1 ∧ (x.2.2 = 0 ∨ x.2.2 = 1 ∨ x.2.2 = x.1) := by
  obtain ⟨j, hj, rfl⟩ := List.mem_iff_getElem.1 h
  have h1 := (R.tab.lat j hj).1
  have h2 := (R.tab.lat j hj).2.2
  have h3 := R.use.next _ (List.getElem_mem hj)
  unfold defBad at h1; unfold badReset at h2; unfold useOk at h3; unfold defR inR
  omega
theorem Right.gate {x : Tri} (h : x ∈ c.ands) : defR c x.1 ∧ inR c x.2.1 ∧ inR c x.2.2 := by
  obtain ⟨j, hj, rfl⟩ := List.mem_iff_getElem.1 h
  have h1 := (R.tab.gat j hj).1
  have h3 := R.use.ands _ (List.getElem_mem hj)
  unfold defBad at h1; unfold useOk at h3; unfold defR inR
  omega
theorem Right.con {l : Int} (h : l ∈ c.constraints) : inR c l := ⟨(R.use.constraints l h).1, (R.use.constraints l h).2.1⟩
theorem Right.just {ls : List Int} {l : Int} (h : ls ∈ c.justice) (h2 : l ∈ ls) : inR c l := ⟨(R.use.justice ls h l h2).1, (R.use.justice ls h l h2).2.1⟩
theorem Right.ord {i : Int} (h : i ∈ ordM c) : 0 ≤ i ∧ i < c.ands.length := R.all.told.all i h
end
theorem inR.has {c : Circ} {l : Int} {v : List Bool} (h : inR c l) (hm : c.max ≤ 16384) (hv : v.length = (c.max + 1).toNat) : hasL v l := by unfold inR at h; unfold hasL; omega
theorem defR.in {c : Circ} {l : Int} (h : defR c l) : inR c l := by unfold defR at h; unfold inR; omega
/-! ### the values -/
def vIn (c : Circ) (r : List Bool) (i : Nat) : List Bool := (List.range i).foldl (fun v (k : Nat) => v.set (gt c.inputs (k : Int) / 2).toNat (gt r (k : Int))) (List.replicate (c.max + 1).toNat false)
def vLt (c : Circ) (s v : List Bool) (i : Nat) : List Bool := (List.range i).foldl (fun v (k : Nat) => v.set ((gt c.latches (k : Int)).1 / 2).toNat (gt s (k : Int))) v
def vAn (c : Circ) (ord : List Int) (v : List Bool) (i : Nat) : List Bool := (List.range i).foldl (fun v (k : Nat) => v.set ((gt c.ands (gt ord (k : Int))).1 / 2).toNat (lv v (gt c.ands (gt ord (k : Int))).2.1 && lv v (gt c.ands (gt ord (k : Int))).2.2)) v
noncomputable def valM (c : Circ) (s r : List Bool) : List Bool := vAn c (ordM c) (vLt c s (vIn c r c.inputs.length) c.latches.length) (ordM c).length
theorem fold_snoc {α : Type} (f : α → Nat → α) (a : α) (i : Nat) : (List.range (i + 1)).foldl f a = f ((List.range i).foldl f a) i := by rw [List.range_succ, List.foldl_append]; rfl
attribute [local irreducible] WC WL WX WS WO OX Does DoesU Enters CV Pure thenQ blockQ retQ Wants retQC GC GL GS GX RdB thenG blockG retG Rd At gt CVN CVM
set_option maxRecDepth 100000
end SC
end Go.Proofs.YtclihihdgodloaaDoor
end
section
/- trestleref07: Values0. -/
set_option linter.unusedVariables false
set_option linter.unusedSimpArgs false
namespace Go.Proofs.YtclihihdgodloaaDoor
namespace SC
open Go.Proofs
attribute [local irreducible] WC WL WX WS WO OX Does DoesU Enters CV Pure thenQ blockQ retQ Wants retQC GC GL GS GX RdB thenG blockG retG Rd At gt CVN CVM
set_option maxRecDepth 100000
end SC
end Go.Proofs.YtclihihdgodloaaDoor
end
section
/- trestleref07: looked, Values, Next, Holds, Starts. -/
set_option linter.unusedVariables false
set_option linter.unusedSimpArgs false
namespace Go.Proofs.YtclihihdgodloaaDoor
namespace SC
open Go.Proofs
/-- A circuit that can be read, and what is so of any. -/
structure CirIn (w : World) (c : Circ) (h js : Hd) : Prop where
  at_ : CirAt w c h js
  sane : c.Sane
  okay : c.Okay
  fits : c.Fits
theorem CirIn.chg {w w' : World} {c : Circ} {h js : Hd} (H : CirIn w c h js) (hc : Chg w w' none_) : CirIn w' c h js := ⟨H.at_.chg hc, H.sane, H.okay, H.fits⟩
theorem In.old {Γ : Mm} {w w0 : World} (h : In Γ (.old w0 none_)) (M : Mem w Γ) : Chg w0 w none_ := h.ok M
attribute [local irreducible] WC WL WX WS WO OX Does DoesU Enters CV Pure thenQ blockQ retQ Wants retQC GC GL GS GX RdB thenG blockG retG Rd At gt CVN CVM
set_option maxRecDepth 100000
section
variable {w : World} {c : Circ} {h js : Hd} {S T : Option Addr} {k2 k3 : Nat} {s r : List Bool} (H : CirIn w c h js) (hS : RowA w booc 1 S s) (hT : RowA w booc 1 T r)
include H hS hT
end
end SC
end Go.Proofs.YtclihihdgodloaaDoor
end
section
/- sim: is, values, next, holds. -/
set_option linter.unusedVariables false
set_option linter.unusedSimpArgs false
namespace Go.Proofs.YtclihihdgodloaaDoor
namespace SC
open Go.Proofs
/-- The runner's cells. -/
noncomputable def rcells (c : Circ) (h : Hd) (B : Option Addr) (k : Nat) : List Value := ccells c h ++ [.slice B (ordM c).length k]
theorem In.box {Γ : Mm} {w : World} {b : Nat} {t : TypeId} {cs : List Value} (h : In Γ (.box b t cs)) (M : Mem w Γ) : Blk w b t cs := h.ok M
theorem In.row {Γ : Mm} {w : World} {α : Type} {enc : α → List Value} {sz : Nat} [H : Enc enc sz] {t : TypeId} {A : Option Addr} {c : Nat} {l : List α} (h : In Γ (.vec enc sz t A c l)) (M : Mem w Γ) : RowA w enc sz A l := (Rd.own h H).at M
instance : Fn Tryd.prog 89 := ⟨fun args w => Tryd.call89 args w⟩
instance : Fn Tryd.prog 92 := ⟨fun args w => Tryd.call92 args w⟩
instance : Fn Tryd.prog 105 := ⟨fun args w => Tryd.call105 args w⟩
attribute [local irreducible] WC WL WX WS WO OX Does DoesU Enters CV Pure thenQ blockQ retQ Wants retQC GC GL GS GX RdB thenG blockG retG Rd At gt CVN CVM
set_option maxRecDepth 100000
/-! ### slices.ContainsFunc at numbers -/
theorem indexFunc_cv {w : World} {f : FuncId} [F : Fn Tryd.prog f] {cap : Array Value} {p : Int → Bool} {A : Option Addr} {k : Nat} {ls : List Int} (hA : RowA w icell 1 A ls) (hn : ls.length ≤ 9223372036854775807) (hf : ∀ x ∈ ls, ∀ w', Chg w w' none_ → CVN Tryd.prog f ([nu x] ++ cap.toList) w' fun v N => N = [] ∧ v = .bool (p x)) :
    CVN Tryd.prog 69 [.slice A ls.length k, .func (.func f) #[] cap] w fun v N => N = [] ∧ ∃ i : Int, v = nu i ∧ decide (0 ≤ i) = ls.any p := by
  refine CVN.enter 19 [4] Tryd.func69 rfl rfl rfl (by decide) rfl ?_
  repeat' (first
|(apply GC_seqK;intro K hK)
|(apply hK;clear hK K)
|(apply GC_block)
|(apply GC_region)
|(apply GL_nil)
|(apply thenG_normal)
|(apply GL_on;eq_refl;eq_refl)
|(apply G_pv;eq_refl;first|exact trivial|omega)
|(apply G_len;eq_refl))
  refine GC_loopK [0, 1, 7] (fun i : Nat => [(8, nu i)]) (fun _ => [.old w none_]) (fun i => i ≤ ls.length ∧ (ls.take i).any p = false) (fun i => ls.length - i) 0 (by repeat first | exact Pick.nil | (apply Pick.cons; eq_refl)) (by repeat first | exact trivial | refine ⟨rfl, ?_⟩) (by repeat first | exact Wk.nil | exact Wk.refl | (apply Wk.cons; (focus ((repeat first | exact Rem.here | apply Rem.there | apply Rem.skip); done))) | apply Wk.nilv | apply Wk.last | apply Wk.drop) ⟨Nat.zero_le _, by simp⟩ ?_
  rintro i ⟨hi, hall⟩
  rcases Nat.lt_or_ge i ls.length with hlt | hge
  · have e1 := List.take_succ_eq_append_getElem hlt
    have eg := gt_nat hlt
    have hcl : ∀ Γ, In Γ (.old w none_) → ∀ w', Mem w' Γ → CVN Tryd.prog f ([nu (gt ls (i : Int))] ++ cap.toList) w' _ := fun Γ h0 w' M => hf _ (by rw [eg]; exact List.getElem_mem hlt) w' (h0.old M)
    rw [← eg] at e1
    cases hv : p (gt ls (i : Int))
    all_goals
      rw [hv] at hcl
      repeat' (first
|(apply G_callF;eq_refl;eq_refl;infer_instance;eq_refl;(apply hcl;(repeat first|exact In.here|apply In.there|apply In.skip));rintro _ _ ⟨rfl, rfl⟩)
|(apply GC_seqK;intro K hK)
|(apply hK;clear hK K)
|(apply GC_block)
|(apply GC_region)
|(apply GL_nil)
|(apply thenG_normal)
|(apply thenG_ret)
|(apply blockG_ret)
|(apply blockG_normal)
|(apply GC_ret)
|(apply GC_skip)
|(apply GC_if_true;eq_refl)
|(apply GC_if_false;eq_refl)
|(apply retG1;eq_refl)
|(apply GL_on;eq_refl;eq_refl)
|(apply G_pv;eq_refl;first|exact trivial|omega)
|(apply G_rd;eq_refl;(first|(apply Rd.own;(repeat first|exact In.here|apply In.there|apply In.skip);infer_instance)|(apply Rd.old;(repeat first|exact In.here|apply In.there|apply In.skip);assumption)|(apply Rd.oldR;(repeat first|exact In.here|apply In.there|apply In.skip);assumption)|exact Rd.nil|assumption);(case ih => infer_instance);omega;omega;eq_refl)
|(apply G_cmpT;eq_refl;eq_refl;omega)
|(apply G_ix;eq_refl;eq_refl;(first|(apply Rd.own;(repeat first|exact In.here|apply In.there|apply In.skip);infer_instance)|(apply Rd.old;(repeat first|exact In.here|apply In.there|apply In.skip);assumption)|(apply Rd.oldR;(repeat first|exact In.here|apply In.there|apply In.skip);assumption)|exact Rd.nil|assumption);(first|eq_refl|omega);omega;omega))
    · exact ⟨i + 1, (by repeat first | exact trivial | refine ⟨rfl, ?_⟩), (by repeat first | exact Wk.nil | exact Wk.refl | (apply Wk.cons; (focus ((repeat first | exact Rem.here | apply Rem.there | apply Rem.skip); done))) | apply Wk.nilv | apply Wk.last | apply Wk.drop), ⟨hlt, by rw [e1, List.any_append, hall]; simp [hv]⟩, by omega⟩
    · refine ⟨[], (by repeat first | exact Wk.nil | exact Wk.refl | (apply Wk.cons; (focus ((repeat first | exact Rem.here | apply Rem.there | apply Rem.skip); done))) | apply Wk.nilv | apply Wk.last | apply Wk.drop), rfl, _, rfl, ?_⟩
      have : ls.any p = true := List.any_eq_true.2 ⟨_, List.getElem_mem hlt, by rw [← eg, hv]⟩
      rw [this]
      simp
  · repeat' (first
|(apply GC_seqK;intro K hK)
|(apply hK;clear hK K)
|(clear hK K;apply hK;clear hK K)
|(apply GC_region)
|(apply GL_nil)
|(apply thenG_normal)
|(apply thenG_exit)
|(apply blockG_hit)
|(apply GC_ret)
|(apply GC_exit)
|(apply GC_if_false;eq_refl)
|(apply retG1;eq_refl)
|(apply GL_on;eq_refl;eq_refl)
|(apply G_pv;eq_refl;first|exact trivial|omega)
|(apply G_cmpF;eq_refl;eq_refl;omega))
    rw [List.take_of_length_le hge] at hall
    exact ⟨[], (by repeat first | exact Wk.nil | exact Wk.refl | (apply Wk.cons; (focus ((repeat first | exact Rem.here | apply Rem.there | apply Rem.skip); done))) | apply Wk.nilv | apply Wk.last | apply Wk.drop), rfl, _, rfl, by rw [hall]; rfl⟩
theorem containsFunc_cv {w : World} {f : FuncId} [F : Fn Tryd.prog f] {cap : Array Value} {p : Int → Bool} {A : Option Addr} {k : Nat} {ls : List Int} (hA : RowA w icell 1 A ls) (hn : ls.length ≤ 9223372036854775807) (hf : ∀ x ∈ ls, ∀ w', Chg w w' none_ → CVN Tryd.prog f ([nu x] ++ cap.toList) w' fun v N => N = [] ∧ v = .bool (p x)) :
    CVN Tryd.prog 41 [.slice A ls.length k, .func (.func f) #[] cap] w fun v N => N = [] ∧ v = .bool (ls.any p) := by
  have hix : ∀ Γ, In Γ (.old w none_) → ∀ w', Mem w' Γ → CVN Tryd.prog 69 [.slice A ls.length k, .func (.func f) #[] cap] w' _ := fun Γ h0 w' M => indexFunc_cv (p := p) (hA.chg (h0.old M)) hn fun x hx w2 hc => hf x hx w2 ((h0.old M).trans hc fun _ _ h => h)
  refine CVN.enter 9 [4] Tryd.func41 rfl rfl rfl (by decide) rfl ?_
  repeat' (first
|(apply G_call;eq_refl;eq_refl;(apply hix;(repeat first|exact In.here|apply In.there|apply In.skip));rintro _ _ ⟨rfl, i, rfl, hi⟩)
|(apply GC_seqK;intro K hK)
|(apply hK;clear hK K)
|(apply GC_region)
|(apply GL_nil)
|(apply thenG_normal)
|(apply GC_ret)
|(apply retG1;eq_refl)
|(apply GL_on;eq_refl;eq_refl)
|(apply G_pv;eq_refl;first|exact trivial|omega)
|(apply G_cmpD;eq_refl;eq_refl;(case hd => infer_instance)))
  exact ⟨[], (by repeat first | exact Wk.nil | exact Wk.refl | (apply Wk.cons; (focus ((repeat first | exact Rem.here | apply Rem.there | apply Rem.skip); done))) | apply Wk.nilv | apply Wk.last | apply Wk.drop), rfl, by rw [← hi]⟩
end SC
end Go.Proofs.YtclihihdgodloaaDoor
end
section
/- trestlebook: SameBools, SpoilBools; trestlelaw07: lent, lit. -/
set_option linter.unusedVariables false
set_option linter.unusedSimpArgs false
namespace Go.Proofs.YtclihihdgodloaaDoor
namespace SC
open Go.Proofs
attribute [local irreducible] WC WL WX WS WO OX Does DoesU Enters CV Pure thenQ blockQ retQ Wants retQC GC GL GS GX RdB thenG blockG retG Rd At gt CVN CVM
set_option maxRecDepth 100000
end SC
end Go.Proofs.YtclihihdgodloaaDoor
end
section
/- sim: ready, step, Values, Next, Holds, Starts. -/
set_option linter.unusedVariables false
set_option linter.unusedSimpArgs false
namespace Go.Proofs.YtclihihdgodloaaDoor
namespace SC
open Go.Proofs
attribute [local irreducible] WC WL WX WS WO OX Does DoesU Enters CV Pure thenQ blockQ retQ Wants retQC GC GL GS GX RdB thenG blockG retG Rd At gt CVN CVM
set_option maxRecDepth 100000
section
variable {w : World} {c : Circ} {h js : Hd} {S T : Option Addr} {k2 k3 : Nat} {s r : List Bool} (H : CirIn w c h js) (hS : RowA w booc 1 S s) (hT : RowA w booc 1 T r)
include H hS hT
end
end SC
end Go.Proofs.YtclihihdgodloaaDoor
end
section
/- What is so in a step. trestleref07: moment. -/
set_option linter.unusedVariables false
set_option linter.unusedSimpArgs false
namespace Go.Proofs.YtclihihdgodloaaDoor
namespace SC
open Go.Proofs
attribute [local irreducible] WC WL WX WS WO OX Does DoesU Enters CV Pure thenQ blockQ retQ Wants retQC GC GL GS GX RdB thenG blockG retG Rd At gt CVN CVM
set_option maxRecDepth 100000
end SC
end Go.Proofs.YtclihihdgodloaaDoor
end
section
/- sim: moment. -/
set_option linter.unusedVariables false
set_option linter.unusedSimpArgs false
namespace Go.Proofs.YtclihihdgodloaaDoor
namespace SC
open Go.Proofs
attribute [local irreducible] WC WL WX WS WO OX Does DoesU Enters CV Pure thenQ blockQ retQ Wants retQC GC GL GS GX RdB thenG blockG retG Rd At gt CVN CVM
set_option maxRecDepth 100000
end SC
end Go.Proofs.YtclihihdgodloaaDoor
end
section
/- Traces and runs. trestleref07: Fits, Run0, Run; sim: Run. -/
set_option linter.unusedVariables false
set_option linter.unusedSimpArgs false
namespace Go.Proofs.YtclihihdgodloaaDoor
namespace SC
open Go.Proofs
abbrev Hdl := Option Addr × Nat
/-- A trace, each row with its handle. -/
structure Trc where
  init : List Bool
  rows : List (Hdl × List Bool)
  loop : Int
/-- The states of a run, and what is so in its steps. -/
noncomputable def stM (c : Circ) (t : Trc) : Nat → List Bool
  | 0 => t.init
  | k + 1 => nxtM c (valM c (stM c t k) (gt t.rows (k : Int)).2)
attribute [local irreducible] WC WL WX WS WO OX Does DoesU Enters CV Pure thenQ blockQ retQ Wants retQC GC GL GS GX RdB thenG blockG retG Rd At gt CVN CVM
set_option maxRecDepth 100000
end SC
end Go.Proofs.YtclihihdgodloaaDoor
end
section
/- trestleref07: Run; sim: Run. -/
set_option linter.unusedVariables false
set_option linter.unusedSimpArgs false
namespace Go.Proofs.YtclihihdgodloaaDoor
namespace SC
open Go.Proofs
attribute [local irreducible] WC WL WX WS WO OX Does DoesU Enters CV Pure thenQ blockQ retQ Wants retQC GC GL GS GX RdB thenG blockG retG Rd At gt CVN CVM
set_option maxRecDepth 100000
end SC
end Go.Proofs.YtclihihdgodloaaDoor
end
section
/- trestlelaw07: works. -/
set_option linter.unusedVariables false
set_option linter.unusedSimpArgs false
namespace Go.Proofs.YtclihihdgodloaaDoor
namespace SC
open Go.Proofs
attribute [local irreducible] WC WL WX WS WO OX Does DoesU Enters CV Pure thenQ blockQ retQ Wants retQC GC GL GS GX RdB thenG blockG retG Rd At CVN CVM
set_option maxRecDepth 100000
end SC
end Go.Proofs.YtclihihdgodloaaDoor
end
section
/- ShapeChecks: the walk. -/
set_option linter.unusedVariables false
set_option linter.unusedSimpArgs false
namespace Go.Proofs.YtclihihdgodloaaDoor
namespace SC
open Go.Proofs
theorem Circ.Fits.lens1 {c : Circ} (hf : c.Fits) : ∀ n ∈ c.lens, n + 1 ≤ 9223372036854775807 := by
  intro n hn
  have h1 := hf.inputs
  have h2 := hf.latches
  have h3 := hf.outputs
  have h4 := hf.bads
  have h5 := hf.constraints
  have h6 := hf.justice
  have h7 := hf.fairness
  have h8 := hf.ands
  have h9 := hf.symbols
  have h10 := hf.comments
  simp only [Circ.lens, List.mem_cons, List.not_mem_nil, or_false] at hn
  rcases hn with rfl | rfl | rfl | rfl | rfl | rfl | rfl | rfl | rfl | rfl <;> omega
attribute [local irreducible] WC WL WX WS WO OX Does DoesU Enters CV Pure thenQ blockQ retQ Wants retQC
set_option maxRecDepth 100000
end SC
end Go.Proofs.YtclihihdgodloaaDoor
end
section
/- trestlelaw07: SimStarts, SimSteps: the walks. -/
set_option linter.unusedVariables false
set_option linter.unusedSimpArgs false
namespace Go.Proofs.YtclihihdgodloaaDoor
namespace SC
open Go.Proofs
/-- A lent circuit, as an entry. -/
def lentX (base : Nat) (c : Circ) (h js : Hd) : EntX where
  own := fun k => ∃ i, (lentRow c h js i).v.ownBlock = some k
  ok := fun w => CirLent w base c h js
  lt := fun w H k ⟨i, hi⟩ => (World.ownsRow.lt (H i) k hi).2
  keep := fun w w' S H hc hn => fun i => own_chg (H i) hc fun k hk => hn k ⟨i, hk⟩
def LendR (c : Circ) (v : Value) (N : Mm) : Prop := ∃ base h' js', v = .agg (ccells c h').toArray ∧ N = [.any (lentX base c h' js')]
theorem LendG {w : World} {c : Circ} {h js : Hd} (H : CirAt w c h js) (hf : c.Fits1) (hn : Nils h js) : CVN Tryd.prog 10 [.agg (ccells c h).toArray] w (LendR c) := CV.mono (lendCircuit_cv H hf hn) fun v w' ⟨h', js', e1, e2, hc⟩ =>
  ⟨[.any (lentX w.heap.size c h' js')], Mem.join (.one e2) (.one hc) fun k ⟨E, hE, h1⟩ ⟨F, hF, h2⟩ => by
    simp only [List.mem_singleton] at hE hF
    subst hE hF
    obtain ⟨i, hi⟩ := h1
    have := (World.ownsRow.lt (e2 i) k hi).1
    have := h2.1
    omega, w.heap.size, h', js', e1, rfl⟩
/-- What comes in: a circuit, with its reach. -/
structure CirGot (w : World) (c : Circ) (h js : Hd) : Prop extends CirIn w c h js where
  fits1 : c.Fits1
  nils : Nils h js
theorem CirGot.chg {w w' : World} {c : Circ} {h js : Hd} (H : CirGot w c h js) (hc : Chg w w' none_) : CirGot w' c h js := ⟨H.toCirIn.chg hc, H.fits1, H.nils⟩
theorem In.lent {Γ : Mm} {w w0 : World} {base : Nat} {c : Circ} {h js h' js' : Hd} (H : CirIn w0 c h js) (hi : In Γ (.any (lentX base c h' js'))) (M : Mem w Γ) : CirIn w c h' js' := ⟨CirLent.at (hi.ok M), H.sane, H.okay, H.fits⟩
theorem KeptG {Γ : Mm} {w0 w : World} {base : Nat} {c : Circ} {h js h' js' : Hd} (H : CirGot w0 c h js) (hi : In Γ (.any (lentX base c h' js'))) (ho : In Γ (.old w0 none_)) (M : Mem w Γ) : CVN Tryd.prog 16 [.agg (ccells c h').toArray, .agg (ccells c h).toArray] w fun v N => N = [] ∧ v = .bool true :=
  CVN.of (keptCircuit_cv (hi.ok M) (H.at_.chg (ho.old M)) H.okay H.fits1.lens1) fun v w' h => ⟨h.2, h.1⟩
attribute [local irreducible] WC WL WX WS WO OX Does DoesU Enters CV Pure thenQ blockQ retQ Wants retQC GC GL GS GX RdB thenG blockG retG Rd At gt CVN CVM
set_option maxRecDepth 100000
end SC
end Go.Proofs.YtclihihdgodloaaDoor
end
section
/- trestlelaw07: SimSteps: the walk. -/
set_option linter.unusedVariables false
set_option linter.unusedSimpArgs false
namespace Go.Proofs.YtclihihdgodloaaDoor
namespace SC
open Go.Proofs
theorem G_callM2 {P : Program} {n : Nat} {all : List Oper} {K : Env → Mm → Prop} {m : Md} {d : Option Tmp} {e : Env} {Γ Γ' : Mm} {ty : TypeId} {f : FuncId} [F : Go.Proofs.YtclihihdgodloaaDoor.SC.Fn P f] {args : Array Operand} {ats : Array TypeId} {vs : List Value} {C : Mm} {R : Value → Mm → Prop} (hm : wrOk all m = true) (h : evs e args.toList = some vs) (hc : ∀ w, Mem w C → CVM P f vs w C R) (hC : Rems Γ C Γ') (hr : ∀ v N, R v N → GN P n all K m (push d v e) (N ++ Γ')) :
    GX P n all K m d (.call { callee := .value (.func f), args := args, argTypes := ats }) ty e Γ :=
  G_callM hm h hC (fun w M => hc w (Mem.takes hC M).left) hr
attribute [local irreducible] WC WL WX WS WO OX Does DoesU Enters CV Pure thenQ blockQ retQ Wants retQC GC GL GS GX RdB thenG blockG retG Rd At gt CVN CVM
set_option maxRecDepth 100000
end SC
end Go.Proofs.YtclihihdgodloaaDoor
end
section
/- Lists of bools that come in. -/
set_option linter.unusedVariables false
set_option linter.unusedSimpArgs false
namespace Go.Proofs.YtclihihdgodloaaDoor
namespace SC
open Go.Proofs
set_option maxRecDepth 100000
section
variable {H : Type} {enc : TypeId × Value → H} {W : World} {base : Nat} {spare : Nat → Bool} {held : Bool}
end
end SC
end Go.Proofs.YtclihihdgodloaaDoor
end
section
/- What is so of the values of a right circuit; trestlelaw07: lit. -/
set_option linter.unusedVariables false
set_option linter.unusedSimpArgs false
namespace Go.Proofs.YtclihihdgodloaaDoor
namespace SC
open Go.Proofs
/-! ### a list that is written from the left -/
section
variable {g : Nat → Nat} {h : List Bool → Nat → Bool} {v : List Bool}
end
theorem nodup_ix {l : List Int} (h : l.Nodup) {a b : Nat} (ha : a < l.length) (hb : b < l.length) (e : l[a] = l[b]) : a = b := by
  have hp := List.pairwise_iff_getElem.1 h
  rcases Nat.lt_trichotomy a b with h1 | h1 | h1
  · exact absurd e (hp a b ha hb h1)
  · exact h1
  · exact absurd e.symm (hp b a hb ha h1)
attribute [local irreducible] WC WL WX WS WO OX Does DoesU Enters CV Pure thenQ blockQ retQ Wants retQC GC GL GS GX RdB thenG blockG retG Rd At gt CVN CVM
set_option maxRecDepth 100000
end SC
end Go.Proofs.YtclihihdgodloaaDoor
end
section
/- Three values: the plain law. -/
set_option linter.unusedVariables false
set_option linter.unusedSimpArgs false
namespace Go.Proofs.YtclihihdgodloaaDoor
namespace SC
open Go.Proofs
def tnot (x : Int) : Int := if x = 2 then 2 else 1 - x
def tand (x y : Int) : Int := if x = 0 ∨ y = 0 then 0 else if x = 1 ∧ y = 1 then 1 else 2
def Is3 (x : Int) : Prop := 0 ≤ x ∧ x ≤ 2
def Row3 (l : List Int) : Prop := ∀ x ∈ l, Is3 x
theorem Is3.tnot {x : Int} (h : Is3 x) : Is3 (tnot x) := by unfold Is3 at *; unfold SC.tnot; split <;> omega
theorem is3_tand (x y : Int) : Is3 (tand x y) := by unfold Is3; unfold tand; split <;> (try split) <;> omega
/-- A literal's value. -/
def tl (v : List Int) (l : Int) : Int := if l % 2 = 1 then tnot (gt v (l / 2)) else gt v (l / 2)
theorem Row3.gt {l : List Int} (h : Row3 l) {i : Int} : 0 ≤ i → i < l.length → Is3 (gt l i) := fun h0 h1 => h _ (gt_mem h0 h1)
theorem Row3.tl {v : List Int} (h : Row3 v) {l : Int} (h0 : 0 ≤ l / 2) (h1 : l / 2 < v.length) : Is3 (tl v l) := by
  unfold SC.tl
  split
  · exact (h.gt h0 h1).tnot
  · exact h.gt h0 h1
theorem Row3.set {l : List Int} (h : Row3 l) {i : Nat} {x : Int} (hx : Is3 x) : Row3 (l.set i x) := fun y hy => by
  rcases List.mem_or_eq_of_mem_set hy with h1 | h1
  · exact h y h1
  · rw [h1]; exact hx
/-! ### the values -/
def tB (c : Circ) : List Int := 0 :: List.replicate c.max.toNat 2
def tIn (c : Circ) (r : List Int) (i : Nat) : List Int := (List.range i).foldl (fun v (k : Nat) => v.set (gt c.inputs (k : Int) / 2).toNat (gt r (k : Int))) (tB c)
def tLt (c : Circ) (s v : List Int) (i : Nat) : List Int := (List.range i).foldl (fun v (k : Nat) => v.set ((gt c.latches (k : Int)).1 / 2).toNat (gt s (k : Int))) v
def tAn (c : Circ) (ord : List Int) (v : List Int) (i : Nat) : List Int := (List.range i).foldl (fun v (k : Nat) => v.set ((gt c.ands (gt ord (k : Int))).1 / 2).toNat (tand (tl v (gt c.ands (gt ord (k : Int))).2.1) (tl v (gt c.ands (gt ord (k : Int))).2.2))) v
noncomputable def valT (c : Circ) (s r : List Int) : List Int := tAn c (ordM c) (tLt c s (tIn c r c.inputs.length) c.latches.length) (ordM c).length
theorem foldI_len (g : List Int → Nat → Nat) (h : List Int → Nat → Int) (v : List Int) (i : Nat) : ((List.range i).foldl (fun v k => v.set (g v k) (h v k)) v).length = v.length := by
  induction i with
  | zero => simp
  | succ i ih => rw [fold_snoc, List.length_set, ih]
theorem tB_len {c : Circ} (m0 : 0 ≤ c.max) : (tB c).length = (c.max + 1).toNat := by unfold tB; rw [List.length_cons, List.length_replicate]; omega
theorem tIn_len {c : Circ} (m0 : 0 ≤ c.max) (r : List Int) (i : Nat) : (tIn c r i).length = (c.max + 1).toNat := by unfold tIn; rw [foldI_len, tB_len m0]
theorem tLt_len (c : Circ) (s v : List Int) (i : Nat) : (tLt c s v i).length = v.length := by unfold tLt; rw [foldI_len]
theorem tAn_len (c : Circ) (ord : List Int) (v : List Int) (i : Nat) : (tAn c ord v i).length = v.length := by unfold tAn; rw [foldI_len]
theorem valT_len {c : Circ} (m0 : 0 ≤ c.max) (s r : List Int) : (valT c s r).length = (c.max + 1).toNat := by unfold valT; rw [tAn_len, tLt_len, tIn_len m0]
theorem tIn_succ (c : Circ) (r : List Int) (i : Nat) : tIn c r (i + 1) = (tIn c r i).set (gt c.inputs (i : Int) / 2).toNat (gt r (i : Int)) := by unfold tIn; rw [fold_snoc]
theorem tLt_succ (c : Circ) (s v : List Int) (i : Nat) : tLt c s v (i + 1) = (tLt c s v i).set ((gt c.latches (i : Int)).1 / 2).toNat (gt s (i : Int)) := by unfold tLt; rw [fold_snoc]
theorem tAn_succ (c : Circ) (o : List Int) (v : List Int) (i : Nat) : tAn c o v (i + 1) = (tAn c o v i).set ((gt c.ands (gt o (i : Int))).1 / 2).toNat (tand (tl (tAn c o v i) (gt c.ands (gt o (i : Int))).2.1) (tl (tAn c o v i) (gt c.ands (gt o (i : Int))).2.2)) := by unfold tAn; rw [fold_snoc]
theorem tB_row (c : Circ) : Row3 (tB c) := fun x hx => by
  unfold tB at hx
  rcases List.mem_cons.1 hx with rfl | h
  · exact ⟨by decide, by decide⟩
  · rw [(List.mem_replicate.1 h).2]
    exact ⟨by decide, by decide⟩
theorem tIn_row {c : Circ} {r : List Int} (hr : Row3 r) : ∀ i ≤ r.length, Row3 (tIn c r i)
  | 0, _ => tB_row c
  | i + 1, h => by rw [tIn_succ]; exact (tIn_row hr i (by omega)).set (hr.gt (by omega) (by omega))
theorem tLt_row {c : Circ} {s v : List Int} (hs : Row3 s) (hv : Row3 v) : ∀ i ≤ s.length, Row3 (tLt c s v i)
  | 0, _ => hv
  | i + 1, h => by rw [tLt_succ]; exact (tLt_row hs hv i (by omega)).set (hs.gt (by omega) (by omega))
theorem tAn_row {c : Circ} {o v : List Int} (hv : Row3 v) : ∀ i : Nat, Row3 (tAn c o v i)
  | 0 => hv
  | i + 1 => by rw [tAn_succ]; exact (tAn_row hv i).set (is3_tand _ _)
theorem valT_row {c : Circ} {s r : List Int} (hs : Row3 s) (hr : Row3 r) (h1 : s.length = c.latches.length) (h2 : r.length = c.inputs.length) : Row3 (valT c s r) := tAn_row (tLt_row hs (tIn_row hr _ (by omega)) _ (by omega)) _
/-- The next row of latches. -/
def nxtT (c : Circ) (v : List Int) : List Int := c.latches.map fun x => tl v x.2.1
theorem inR.hasI {c : Circ} {l : Int} {v : List Int} (h : inR c l) (hv : v.length = (c.max + 1).toNat) : 0 ≤ l / 2 ∧ l / 2 < v.length := by unfold inR at h; omega
theorem nxtT_row {c : Circ} (R : Right c) {v : List Int} (hv : Row3 v) (hl : v.length = (c.max + 1).toNat) : Row3 (nxtT c v) := fun x hx => by
  unfold nxtT at hx
  obtain ⟨y, hy, rfl⟩ := List.mem_map.1 hx
  have := (R.lat hy).2.1.hasI hl
  exact hv.tl this.1 this.2
/-- The row with which a circuit begins. -/
def rsT (c : Circ) : List Int := c.latches.map fun x => if x.2.2 < 2 then x.2.2 else 2
theorem rsT_row {c : Circ} (R : Right c) : Row3 (rsT c) := fun x hx => by
  unfold rsT at hx
  obtain ⟨y, hy, rfl⟩ := List.mem_map.1 hx
  obtain ⟨h1, _, h2⟩ := R.lat hy
  unfold defR at h1
  unfold Is3
  split <;> omega
/-- What two rows have in common. -/
def joinT (a b : List Int) : List Int := (List.range a.length).map fun (i : Nat) => if gt a (i : Int) = gt b (i : Int) then gt a (i : Int) else 2
theorem joinT_len (a b : List Int) : (joinT a b).length = a.length := by unfold joinT; simp
theorem joinT_gt {a b : List Int} {i : Nat} (h : i < a.length) : gt (joinT a b) (i : Int) = if gt a (i : Int) = gt b (i : Int) then gt a (i : Int) else 2 := by
  rw [gt_nat (by rw [joinT_len]; exact h)]
  unfold joinT
  rw [List.getElem_map, List.getElem_range]
theorem joinT_row {a b : List Int} (ha : Row3 a) : Row3 (joinT a b) := fun x hx => by
  unfold joinT at hx
  obtain ⟨i, hi, rfl⟩ := List.mem_map.1 hx
  have hi := List.mem_range.1 hi
  split
  · exact ha.gt (by omega) (by omega)
  · exact ⟨by decide, by decide⟩
/-! ### settling -/
/-- One round of settling. -/
noncomputable def setT (c : Circ) (a : List Int) : List Int := joinT a (nxtT c (valT c a (List.replicate c.inputs.length 2)))
theorem setT_len (c : Circ) (a : List Int) : (setT c a).length = a.length := joinT_len _ _
/-- How many are open. -/
def opn (l : List Int) : Nat := l.countP fun x => decide (x = 2)
theorem opn_le (l : List Int) : opn l ≤ l.length := List.countP_le_length
theorem row_ext {a b : List Int} (hl : a.length = b.length) (h : ∀ i : Nat, i < a.length → gt a (i : Int) = gt b (i : Int)) : a = b := by
  apply List.ext_getElem hl
  intro i h1 h2
  have := h i h1
  rwa [gt_nat h1, gt_nat h2] at this
theorem countP_lt {α : Type} {p : α → Bool} : ∀ {a b : List α}, a.length = b.length → (∀ i (h1 : i < a.length) (h2 : i < b.length), p a[i] = true → p b[i] = true) → (∃ i, ∃ h1 : i < a.length, ∃ h2 : i < b.length, p a[i] = false ∧ p b[i] = true) → a.countP p < b.countP p
  | [], _, _, _, ⟨i, h, _⟩ => absurd h (Nat.not_lt_zero _)
  | x :: a, [], hl, _, _ => by cases hl
  | x :: a, y :: b, hl, h, ⟨i, h1, h2, g1, g2⟩ => by
    have hle : ∀ (a b : List α), a.length = b.length → (∀ i (h1 : i < a.length) (h2 : i < b.length), p a[i] = true → p b[i] = true) → a.countP p ≤ b.countP p := by
      intro a
      induction a with
      | nil => intro b _ _; simp
      | cons x a ih =>
        intro b hl h
        cases b with
        | nil => cases hl
        | cons y b =>
          have h0 := h 0 (by simp) (by simp)
          have hr := ih b (by simpa using hl) fun i h1 h2 => h (i + 1) (by simpa using h1) (by simpa using h2)
          simp only [List.getElem_cons_zero] at h0
          rw [List.countP_cons, List.countP_cons]
          cases hp : p x
          · simp; omega
          · rw [h0 hp]; simp; omega
    have h0 := h 0 (by simp) (by simp)
    simp only [List.getElem_cons_zero] at h0
    rw [List.countP_cons, List.countP_cons]
    rcases i with _ | i
    · simp only [List.getElem_cons_zero] at g1 g2
      have hr := hle a b (by simpa using hl) fun i h1 h2 => h (i + 1) (by simpa using h1) (by simpa using h2)
      rw [g1, g2]
      simp
      omega
    · have hr := countP_lt (p := p) (a := a) (b := b) (by simpa using hl) (fun i h1 h2 => h (i + 1) (by simpa using h1) (by simpa using h2)) ⟨i, by simpa using h1, by simpa using h2, by simpa using g1, by simpa using g2⟩
      cases hp : p x
      · simp; omega
      · rw [h0 hp]; simp; omega
theorem joinT_opn {a b : List Int} (h : joinT a b ≠ a) : opn a < opn (joinT a b) := by
  unfold opn
  have hl := joinT_len a b
  refine countP_lt hl.symm (fun i h1 h2 hp => ?_) ?_
  · have := joinT_gt (a := a) (b := b) h1
    rw [gt_nat h2, gt_nat h1] at this
    rw [this]
    split
    · exact hp
    · rfl
  · refine Classical.byContradiction fun hn => h ?_
    refine row_ext hl fun i hi => ?_
    rw [hl] at hi
    have hj := joinT_gt (a := a) (b := b) hi
    rw [hj]
    split
    · rfl
    · rename_i hne
      by_cases h2 : gt a (i : Int) = 2
      · exact h2.symm
      · refine absurd ⟨i, hi, by omega, ?_, ?_⟩ hn
        · rw [gt_nat hi] at h2
          exact decide_eq_false h2
        · rw [gt_nat (by omega), if_neg hne] at hj
          exact decide_eq_true hj
/-- The rows of settling. -/
noncomputable def stT (c : Circ) : Nat → List Int
  | 0 => rsT c
  | n + 1 => setT c (stT c n)
theorem stT_len (c : Circ) : ∀ n, (stT c n).length = c.latches.length
  | 0 => by unfold stT rsT; simp
  | n + 1 => by unfold stT; rw [setT_len, stT_len c n]
theorem stT_row {c : Circ} (R : Right c) : ∀ n, Row3 (stT c n)
  | 0 => rsT_row R
  | n + 1 => joinT_row (stT_row R n)
theorem stT_opn (c : Circ) : ∀ n, (∀ k < n, setT c (stT c k) ≠ stT c k) → n ≤ opn (stT c n)
  | 0, _ => Nat.zero_le _
  | n + 1, h => by
    have h1 := stT_opn c n fun k hk => h k (by omega)
    have h2 := joinT_opn (h n (by omega))
    show n + 1 ≤ opn (setT c (stT c n))
    unfold setT
    omega
theorem stT_ends (c : Circ) : ∃ n, setT c (stT c n) = stT c n := Classical.byContradiction fun hn => by
  have h1 := stT_opn c (c.latches.length + 1) fun k _ he => hn ⟨k, he⟩
  have h2 := opn_le (stT c (c.latches.length + 1))
  rw [stT_len] at h2
  omega
end SC
end Go.Proofs.YtclihihdgodloaaDoor
end
section
/- trestlelaw07: SimGates: the walk. -/
set_option linter.unusedVariables false
set_option linter.unusedSimpArgs false
namespace Go.Proofs.YtclihihdgodloaaDoor
namespace SC
open Go.Proofs
attribute [local irreducible] WC WL WX WS WO OX Does DoesU Enters CV Pure thenQ blockQ retQ Wants retQC GC GL GS GX RdB thenG blockG retG Rd At gt CVN CVM
set_option maxRecDepth 100000
end SC
end Go.Proofs.YtclihihdgodloaaDoor
end
section
/- trestlebook: SameInts, SpoilInts, SameTrace; trestlelaw07: same. -/
set_option linter.unusedVariables false
set_option linter.unusedSimpArgs false
namespace Go.Proofs.YtclihihdgodloaaDoor
namespace SC
open Go.Proofs Go.Maps
set_option maxRecDepth 100000
theorem sameIntsG {w : World} {A B : Option Addr} {c d : Nat} {l : List Int} (R : RowA w icell 1 A l) (R' : RowA w icell 1 B l) (hl : l.length ≤ 9223372036854775807) : CVN Tryd.prog 14 [.slice A l.length c, .slice B l.length d] w fun v N => N = [] ∧ v = .bool true :=
  CVN.of (sameInts_cv R R' hl hl) fun v w' h => ⟨h.2, by rw [h.1, decide_eq_true rfl]⟩
theorem spoilIntsG {w : World} {A : Option Addr} {c : Nat} {l : List Int} {mark : Int} (M : Mem w [.vec icell 1 3 A c l]) : CVM Tryd.prog 15 [.slice A l.length c, nu mark] w [.vec icell 1 3 A c l] fun v N => N = [] :=
  CV.mono (spoil_cv (mark := mark) ((In.here (E := .vec icell 1 3 A c l) (Γ := [])).ok M)) fun v w' h => ⟨[], .one (h.mono fun k hk => owns_cons.2 (.inl hk)), rfl⟩
/-! ### spots -/
/-! ### traces -/
/-! ### the moments of a run, in memory -/
theorem vec_len {α : Type} {enc : α → List Value} {sz : Nat} {w : World} {t : TypeId} {A : Option Addr} {c : Nat} {l : List α} (h : w.ownsRow 0 t sz (.slice A l.length c) l.length (l.flatMap enc)) : l.length ≤ 9223372036854775807 := by
  rcases h.2 with ⟨_, h2⟩ | ⟨g, cap, cur, _, _, _, hc, hm, _⟩
  · omega
  · simp only [maxLen] at hm
    omega
attribute [local irreducible] WC WL WX WS WO OX Does DoesU Enters CV Pure thenQ blockQ retQ Wants retQC GC GL GS GX RdB thenG blockG retG Rd At gt CVN CVM
end SC
end Go.Proofs.YtclihihdgodloaaDoor
end
section
/- trestlebook: CopyTrace; runs of traces that read the same. -/
set_option linter.unusedVariables false
set_option linter.unusedSimpArgs false
namespace Go.Proofs.YtclihihdgodloaaDoor
namespace SC
open Go.Proofs
attribute [local irreducible] WC WL WX WS WO OX Does DoesU Enters CV Pure thenQ blockQ retQ Wants retQC GC GL GS GX RdB thenG blockG retG Rd At gt CVN CVM
set_option maxRecDepth 100000
end SC
end Go.Proofs.YtclihihdgodloaaDoor
end
section
/- Entries bound together; what runs answer. -/
set_option linter.unusedVariables false
set_option linter.unusedSimpArgs false
namespace Go.Proofs.YtclihihdgodloaaDoor
namespace SC
open Go.Proofs
/-- Entries as one. -/
def bun (Δ : Mm) : EntX where
  own := owns Δ
  ok := fun w => Mem w Δ
  lt := fun w M k hk => M.lt hk
  keep := fun w w' S M hc hn => M.chg hc hn
theorem In.bun {Γ Δ : Mm} {w : World} (h : In Γ (.any (bun Δ))) (M : Mem w Γ) : Mem w Δ := h.ok M
theorem Rd.bun {α : Type} {Γ Δ : Mm} {enc : α → List Value} {sz : Nat} {A : Option Addr} {l : List α} (h : In Γ (.any (bun Δ))) (h0 : Rd Δ enc sz A l) : Rd Γ enc sz A l := fun w M => h0.at (h.bun M)
theorem CVN.bun {P : Program} {f : FuncId} {args : List Value} {w : World} {R : Value → Mm → Prop} (h : CVN P f args w R) : CVN P f args w fun v N => ∃ N', R v N' ∧ N = [.any (bun N')] :=
  CV.mono h fun v w' ⟨N, M, hR⟩ => ⟨[.any (SC.bun N)], Mem.join (.one M.left) M.right fun k ⟨E, hE, h1⟩ h2 => by
    simp only [List.mem_singleton] at hE
    subst hE
    exact M.sep k h1 h2, N, hR, rfl⟩
theorem Wk.left {Γ Δ : Mm} : Wk (Δ ++ Γ) Δ := ⟨fun w M => M.left, fun k hk => owns_append.2 (.inl hk)⟩
end SC
end Go.Proofs.YtclihihdgodloaaDoor
end
section
/- trestlelaw07: SimRuns: the walk. -/
set_option linter.unusedVariables false
set_option linter.unusedSimpArgs false
namespace Go.Proofs.YtclihihdgodloaaDoor
namespace SC
open Go.Proofs
attribute [local irreducible] WC WL WX WS WO OX Does DoesU Enters CV Pure thenQ blockQ retQ Wants retQC GC GL GS GX RdB thenG blockG retG Rd At gt CVN CVM
attribute [local irreducible] fam bun
set_option maxRecDepth 100000
end SC
end Go.Proofs.YtclihihdgodloaaDoor
end
section
/- Traces that come in. -/
set_option linter.unusedVariables false
set_option linter.unusedSimpArgs false
namespace Go.Proofs.YtclihihdgodloaaDoor
namespace SC
open Go.Proofs
set_option maxRecDepth 100000
section
variable {H : Type} {enc : TypeId × Value → H} {W : World} {base : Nat} {spare : Nat → Bool} {held : Bool}
end
end SC
end Go.Proofs.YtclihihdgodloaaDoor
end
section
/- A back part of a slice; numbers without a sign; a run from one of its states. -/
set_option linter.unusedVariables false
set_option linter.unusedSimpArgs false
namespace Go.Proofs.YtclihihdgodloaaDoor
namespace SC
open Go.Proofs
set_option maxRecDepth 100000
section
variable {n : Nat} {all : List Oper} {K : Env → Mm → Prop} {m : Md} {e : Env} {Γ : Mm} {d : Option Tmp} {ty t t' t0 : TypeId} {x y : Operand} {td : TypeDesc} {sz sz1 by_ by1 : Nat} {zv z1 : Value} {ag ag1 : Bool}
theorem p_sliceFrom {P : Program} {t0 : TypeId} (hu : P.underlying t = some (.slice t0)) (T : Ty P t0 td sz zv by_ ag) {A : Option Addr} {n c : Nat} {k : IntKind} {i : Nat} (h : ev e x = some (.slice A n c)) (h1 : ev e y = some (.int k (i : Int))) (h0 : i < n) (h2 : n ≤ c) :
    Pure P (.slice t x (some y) none none) ty e (.slice (A.map (·.add (i * sz))) (n - i) (c - i)) := by
  intro w ρ dst pos af g hρ
  have := run_sliceBound (P := P) (w := w) k (i : Int) n .sliceB (by omega) (by omega)
  have hc : c ≠ i := by omega
  cases A <;> simp [execOp, hρ _ _ h, hρ _ _ h1, Instr.sliceAt, Instr.slice, Instr.sliceBounds, run_underlying hu, T.size, this, hc]
end
theorem RowA.drop {α : Type} {w : World} {enc : α → List Value} {sz : Nat} {A : Option Addr} {l : List α} (h : RowA w enc sz A l) (i : Nat) : RowA w enc sz (A.map (·.add (i * sz))) (l.drop i) := fun k hk => by
  rw [List.length_drop] at hk
  obtain ⟨p, rfl, hp⟩ := h (i + k) (by omega)
  refine ⟨p.add (i * sz), rfl, fun j u hj => ?_⟩
  rw [List.getElem_drop] at hj
  have := hp j u hj
  rw [show ((i + k : Nat) : Int).toNat = i + k by omega, Nat.add_mul] at this
  rw [show (k : Int).toNat = k by omega, Addr.add_add p]
  exact this
/-- The trace from a state on. -/
noncomputable def tail (c : Circ) (t : Trc) (i : Nat) : Trc := ⟨stM c t i, t.rows.drop i, -1⟩
end SC
end Go.Proofs.YtclihihdgodloaaDoor
end
section
/- trestleref03: Lit, Lits, Binary. -/
set_option linter.unusedVariables false
set_option linter.unusedSimpArgs false
namespace Go.Proofs.YtclihihdgodloaaDoor
namespace SC
open Go.Proofs
attribute [local irreducible] WC WL WX WS WO OX Does DoesU Enters CV Pure thenQ blockQ retQ Wants retQC GC GL GS GX RdB thenG blockG retG Rd At gt CVN CVM
set_option maxRecDepth 100000
end SC
end Go.Proofs.YtclihihdgodloaaDoor
end
section
/- The renumbering's map: what it gives to each variable of a right circuit. -/
set_option linter.unusedVariables false
set_option linter.unusedSimpArgs false
namespace Go.Proofs.YtclihihdgodloaaDoor
namespace SC
open Go.Proofs
section
variable {c : Circ} (R : Right c)
include R
end
end SC
end Go.Proofs.YtclihihdgodloaaDoor
end
section
/- Definitions that are apart pass; the renumbered circuit's definitions. -/
set_option linter.unusedVariables false
set_option linter.unusedSimpArgs false
namespace Go.Proofs.YtclihihdgodloaaDoor
namespace SC
open Go.Proofs
/-! ### the renumbered circuit -/
section
variable {c : Circ} (R : Right c)
/-- The circuit in the binary order; the map. -/
noncomputable abbrev renC (c : Circ) : Circ := renM c (ordM c)
noncomputable abbrev toM (c : Circ) : List Int := mapOf c.max (defsOf c (ordM c))
include R
end
end SC
end Go.Proofs.YtclihihdgodloaaDoor
end
section
/- The renumbered circuit is right. -/
set_option linter.unusedVariables false
set_option linter.unusedSimpArgs false
namespace Go.Proofs.YtclihihdgodloaaDoor
namespace SC
open Go.Proofs
section
variable {c : Circ} (R : Right c)
include R
end
end SC
end Go.Proofs.YtclihihdgodloaaDoor
end
section
/- The renumbered circuit's order; it looks right. -/
set_option linter.unusedVariables false
set_option linter.unusedSimpArgs false
namespace Go.Proofs.YtclihihdgodloaaDoor
namespace SC
open Go.Proofs
section
variable {c : Circ} (R : Right c)
include R
/-- A gate that another one uses was told before it. -/
theorem Right.low {k : Nat} (hk : k < (ordM c).length) {l : Int} (hl : l = (andAt c (ordM c)[k]).2.1 ∨ l = (andAt c (ordM c)[k]).2.2) {j : Nat} (hj : j < (ordM c).length) (e : l / 2 = (andAt c (ordM c)[j]).1 / 2) : j < k := by
  have ho := R.ord (List.getElem_mem hj)
  have hlt : (ordM c)[j].toNat < c.ands.length := by omega
  have h3 := (R.tab.gat _ hlt).2
  have ea : andAt c (ordM c)[j] = c.ands[(ordM c)[j].toNat] := by unfold andAt; simp [hlt]
  rw [← ea, ← e, show (((ordM c)[j].toNat : Nat) : Int) = (ordM c)[j] by omega] at h3
  have hsp : ordM c = (ordM c).take k ++ (ordM c)[k] :: (ordM c).drop (k + 1) := by
    have h1 := List.take_append_drop k (ordM c)
    rw [List.drop_eq_getElem_cons hk] at h1
    exact h1.symm
  have hlow := (R.all.told.split hsp).1.low
  have hb : (ordM c)[j] ∈ gateB (tabM c) c (ordM c)[k] := by
    show (ordM c)[j] ∈ belowL (tabM c) [(andAt c (ordM c)[k]).2.1, (andAt c (ordM c)[k]).2.2]
    rw [mem_belowL]
    exact ⟨l, by rcases hl with rfl | rfl <;> simp, kindAt_get h3, atOf_get h3⟩
  obtain ⟨k', hk', ek⟩ := List.mem_iff_getElem.1 (hlow _ hb)
  rw [List.length_take] at hk'
  rw [List.getElem_take] at ek
  have := nodup_ix R.all.told.nodup (a := k') (b := j) (by omega) hj ek
  omega
end
end SC
end Go.Proofs.YtclihihdgodloaaDoor
end
section
/- The renumbered circuit's values and runs. -/
set_option linter.unusedVariables false
set_option linter.unusedSimpArgs false
namespace Go.Proofs.YtclihihdgodloaaDoor
namespace SC
open Go.Proofs
section
variable {c : Circ}
end
section
variable {c : Circ} (R : Right c)
include R
end
end SC
end Go.Proofs.YtclihihdgodloaaDoor
end
section
/- Runs of the renumbered circuit. -/
set_option linter.unusedVariables false
set_option linter.unusedSimpArgs false
namespace Go.Proofs.YtclihihdgodloaaDoor
namespace SC
open Go.Proofs
section
variable {c : Circ} (R : Right c) (R' : Right (renC c))
include R R'
end
end SC
end Go.Proofs.YtclihihdgodloaaDoor
end
section
/- The binary order: a right circuit has it just if renumbering leaves it as it is. -/
set_option linter.unusedVariables false
set_option linter.unusedSimpArgs false
namespace Go.Proofs.YtclihihdgodloaaDoor
namespace SC
open Go.Proofs
section
variable {c : Circ} (R : Right c)
include R
end
end SC
end Go.Proofs.YtclihihdgodloaaDoor
end
section
/- shape: Renumber, by entries. -/
set_option linter.unusedVariables false
set_option linter.unusedSimpArgs false
namespace Go.Proofs.YtclihihdgodloaaDoor
namespace SC
open Go.Proofs
section
variable {c : Circ} (R : Right c)
include R
end
/-- A renumbered circuit of its own and its map, as one entry. -/
def renX (base : Nat) (c : Circ) (h js : Hd) (A : Option Addr) (k : Nat) : EntX where
  own := fun b => (∃ i, (cirRows (renC c) h js js (renC c).justice.length i).v.ownBlock = some b) ∨ (Value.slice A (toM c).length k).ownBlock = some b
  ok := fun w => CirOwn w base (renC c) h js ∧ w.ownsRow base 3 1 (.slice A (toM c).length k) (toM c).length ((toM c).flatMap icell)
  lt := fun w H b hb => by
    rcases hb with ⟨i, hi⟩ | hb
    · exact (Rows.lt H.1 hi).2
    · exact (World.ownsRow.lt H.2 b hb).2
  keep := fun w w' S H hc hn => ⟨Rows.chg H.1 hc fun i b hb => hn b (.inl ⟨i, hb⟩), own_chg H.2 hc fun b hb => hn b (.inr hb)⟩
attribute [local irreducible] WC WL WX WS WO OX Does DoesU Enters CV Pure thenQ blockQ retQ Wants retQC GC GL GS GX RdB thenG blockG retG Rd At gt CVN CVM
set_option maxRecDepth 100000
end SC
end Go.Proofs.YtclihihdgodloaaDoor
end
section
/- trestlelaw07: SimNumbers: the walk. -/
set_option linter.unusedVariables false
set_option linter.unusedSimpArgs false
namespace Go.Proofs.YtclihihdgodloaaDoor
namespace SC
open Go.Proofs
attribute [local irreducible] WC WL WX WS WO OX Does DoesU Enters CV Pure thenQ blockQ retQ Wants retQC GC GL GS GX RdB thenG blockG retG Rd At gt CVN CVM
attribute [local irreducible] fam bun renX
set_option maxRecDepth 100000
end SC
end Go.Proofs.YtclihihdgodloaaDoor
end
section
/- slices.Equal, slices.EqualFunc; shape's Same. -/
set_option linter.unusedVariables false
set_option linter.unusedSimpArgs false
namespace Go.Proofs.YtclihihdgodloaaDoor
namespace SC
open Go.Proofs
attribute [local irreducible] WC WL WX WS WO OX Does DoesU Enters CV Pure thenQ blockQ retQ Wants retQC
set_option maxRecDepth 100000
theorem equalInts_cv {w : World} {A B : Option Addr} {c d : Nat} {l m : List Int} (R : RowA w icell 1 A l) (R' : RowA w icell 1 B m) (hl : l.length ≤ 9223372036854775807) (hm : m.length ≤ 9223372036854775807) :
    CV Tryd.prog 53 [.slice A l.length c, .slice B m.length d] w fun v w' => v = .bool (decide (l = m)) ∧ Chg w w' none_ := by
  refine enter 26 [4] Tryd.func53 rfl rfl rfl (by decide) rfl ?_
  by_cases hlm : l.length = m.length
  · have e : (m.length : Int) = l.length := by omega
    repeat' (first
|(apply WC_seqK;intro K hK)
|(apply hK;clear hK)
|(apply WC_block)
|(apply WC_region)
|(apply WL_nil)
|(apply thenQ_normal)
|(apply WC_skip)
|(apply WC_if_false;eq_refl)
|(apply WL_on0;eq_refl)
|(apply X_pv;eq_refl;first|exact trivial|omega)
|(apply X_cmpF;eq_refl;eq_refl;omega)
|(apply X_len;eq_refl))
    refine WC_loop (fun i : Nat => [(0, .slice A l.length c), (1, .slice B m.length d), (12, nu l.length), (13, nu i)]) (fun i W => Chg w W none_ ∧ i ≤ l.length ∧ l.take i = m.take i) (fun i => l.length - i) 0 ⟨rfl, rfl, rfl, rfl, trivial⟩ ⟨Chg.refl _ _, Nat.zero_le _, by simp⟩ ?_
    rintro i w1 ⟨hC1, hi, heq⟩
    rcases Nat.lt_or_ge i l.length with hlt | hge
    · have hltm : i < m.length := by omega
      obtain ⟨p, hp, hpc⟩ := (R.chg hC1).one hlt (v := nu l[i]) rfl
      obtain ⟨q, hq, hqc⟩ := (R'.chg hC1).one hltm (v := nu m[i]) rfl
      have h1 := List.take_succ_eq_append_getElem hlt
      have h2 := List.take_succ_eq_append_getElem hltm
      rw [hp, hq]
      generalize hx : l[i] = x at *
      generalize hy : m[i] = y at *
      repeat' (first
|(apply WC_seqK;intro K hK)
|(apply hK;clear hK)
|(apply WC_block)
|(apply WC_region)
|(apply WL_nil)
|(apply thenQ_normal)
|(apply WC_skip)
|(apply WC_if_true;eq_refl)
|(apply WL_on0;eq_refl)
|(apply X_pv;eq_refl;first|exact trivial|omega)
|(apply X_cmpT;eq_refl;eq_refl;omega))
      refine WC_draws [(0, true), (1, true), (2, true), (3, true), (4, true), (5, true), (6, true), (7, true), (8, true)] (fun W => W.cell? (p.add ((i : Int).toNat * 1)) = some (nu x) ∧ W.cell? (q.add ((i : Int).toNat * 1)) = some (nu y)) mixed (by kernel_rfl) (by kernel_rfl) ?_
      have hS : w1.drew.cell? (p.add ((i : Int).toNat * 1)) = some (nu x) ∧ w1.drew.cell? (q.add ((i : Int).toNat * 1)) = some (nu y) := ⟨hpc, hqc⟩
      repeat' (first
|(apply WC_seqK;intro K hK)
|(apply hK;clear hK)
|(apply WC_region)
|(apply WL_nil)
|(apply thenQ_normal)
|(apply thenQ_ret)
|(apply blockQ_ret)
|(apply blockQ_normal)
|(apply WC_ret)
|(apply WC_skip)
|(apply WC_if_true;eq_refl)
|(apply WC_if_false;eq_refl)
|(apply ret1;eq_refl)
|(apply WS_nil)
|(apply WS_next;eq_refl)
|(apply WO_on0;eq_refl)
|(apply O_pv;eq_refl;(first|exact trivial|omega);(first|assumption|exact trivial))
|(apply O_loadC;eq_refl;(first|(intro _ h;exact h)|(intro _ h;exact h.1)|(intro _ h;exact h.2)|(intro _ h;exact h.2.1)|(intro _ h;exact h.2.2)|(intro _ h;exact h.2.2.1)|(intro _ h;exact h.2.2.2));(first|assumption|exact trivial))
|(apply O_cmp;eq_refl;eq_refl;(first|assumption|exact trivial);all_goals intro _)
|(apply O_indexP;eq_refl;eq_refl;omega;omega;(first|assumption|exact trivial))
|(apply WL_on0;eq_refl)
|(apply X_pv;eq_refl;first|exact trivial|omega))
      · have e2 : decide (l = m) = false := decide_eq_false fun h => by
          have hxy : x = y := by rw [← hx, ← hy]; simp only [h]
          contradiction
        rw [e2]
        exact ⟨rfl, hC1.dr⟩
      · refine ⟨i + 1, ⟨by first | rfl | (rw [hp]; rfl), by first | rfl | (rw [hq]; rfl), rfl, rfl, trivial⟩, ⟨hC1.dr, hlt, ?_⟩, by omega⟩
        have hxy : x = y := by first | assumption | omega
        rw [h1, h2, heq, hxy]
    · repeat' (first
|(apply WC_seqK;intro K hK)
|(apply hK;clear hK)
|(clear hK;apply hK;clear hK)
|(apply WC_region)
|(apply WL_nil)
|(apply thenQ_normal)
|(apply thenQ_exit)
|(apply blockQ_hit)
|(apply WC_ret)
|(apply WC_exit)
|(apply WC_if_false;eq_refl)
|(apply ret1;eq_refl)
|(apply WL_on0;eq_refl)
|(apply X_pv;eq_refl;first|exact trivial|omega)
|(apply X_cmpF;eq_refl;eq_refl;omega))
      rw [List.take_of_length_le (by omega), List.take_of_length_le (by omega)] at heq
      rw [heq]
      exact ⟨by simp, hC1⟩
  · have e : decide (l = m) = false := decide_eq_false fun h => hlm (by rw [h])
    rw [e]
    repeat' (first
|(apply WC_seqK;intro K hK)
|(apply hK;clear hK)
|(apply WC_region)
|(apply WL_nil)
|(apply thenQ_normal)
|(apply thenQ_ret)
|(apply WC_ret)
|(apply WC_if_true;eq_refl)
|(apply ret1;eq_refl)
|(apply WL_on0;eq_refl)
|(apply X_pv;eq_refl;first|exact trivial|omega)
|(apply X_cmpT;eq_refl;eq_refl;omega)
|(apply X_len;eq_refl))
    exact ⟨rfl, Chg.refl _ _⟩
end SC
end Go.Proofs.YtclihihdgodloaaDoor
end
section
/- slices.EqualFunc at lists of lists; shape's Same. -/
set_option linter.unusedVariables false
set_option linter.unusedSimpArgs false
namespace Go.Proofs.YtclihihdgodloaaDoor
namespace SC
open Go.Proofs
attribute [local irreducible] WC WL WX WS WO OX Does DoesU Enters CV Pure thenQ blockQ retQ Wants retQC
set_option maxRecDepth 100000
end SC
end Go.Proofs.YtclihihdgodloaaDoor
end
section
/- trestlebook: SpoilCircuit. -/
set_option linter.unusedVariables false
set_option linter.unusedSimpArgs false
namespace Go.Proofs.YtclihihdgodloaaDoor
namespace SC
open Go.Proofs
attribute [local irreducible] WC WL WX WS WO OX Does DoesU Enters CV Pure thenQ blockQ retQ Wants retQC
set_option maxRecDepth 100000
end SC
end Go.Proofs.YtclihihdgodloaaDoor
end
section
/- IsBinary, of the reference and of shape. -/
set_option linter.unusedVariables false
set_option linter.unusedSimpArgs false
namespace Go.Proofs.YtclihihdgodloaaDoor
namespace SC
open Go.Proofs
attribute [local irreducible] WC WL WX WS WO OX Does DoesU Enters CV Pure thenQ blockQ retQ Wants retQC GC GL GS GX RdB thenG blockG retG Rd At gt CVN CVM
attribute [local irreducible] renX
set_option maxRecDepth 100000
end SC
end Go.Proofs.YtclihihdgodloaaDoor
end
section
/- The renumbered circuit has the binary order. -/
set_option linter.unusedVariables false
set_option linter.unusedSimpArgs false
namespace Go.Proofs.YtclihihdgodloaaDoor
namespace SC
open Go.Proofs
section
variable {c : Circ} (R : Right c)
include R
end
end SC
end Go.Proofs.YtclihihdgodloaaDoor
end
section
/- trestlelaw03: ShapeSettles: the walk. -/
set_option linter.unusedVariables false
set_option linter.unusedSimpArgs false
namespace Go.Proofs.YtclihihdgodloaaDoor
namespace SC
open Go.Proofs
attribute [local irreducible] WC WL WX WS WO OX Does DoesU Enters CV Pure thenQ blockQ retQ Wants retQC GC GL GS GX RdB thenG blockG retG Rd At gt CVN CVM
attribute [local irreducible] renX
set_option maxRecDepth 100000
end SC
end Go.Proofs.YtclihihdgodloaaDoor
end
section
/- trestlebook: CopyCircuit by entries; trestleref03: Renumber. -/
set_option linter.unusedVariables false
set_option linter.unusedSimpArgs false
namespace Go.Proofs.YtclihihdgodloaaDoor
namespace SC
open Go.Proofs
end SC
end Go.Proofs.YtclihihdgodloaaDoor
end
section
/- General words: clauses in memory, families bound together, regions whose changes are kept apart. (Collected out of N1, N2, N9, N11, N37, N39, N40, N41 for seats without their functions.) -/
set_option linter.unusedVariables false
set_option linter.unusedSimpArgs false
namespace Go.Proofs.YtclihihdgodloaaDoor
namespace SC
open Go.Proofs
theorem Wk.one {E : Ent} {Γ : Mm} : Wk (E :: Γ) [E] := Wk.cons .here .nil
theorem Wk.there {Γ Γ' : Mm} (h : Wk Γ Γ') : Wk Γ ([] ++ Γ') := h
theorem Upd.left {Θ Θ' Γ : Mm} {E F : Ent} (h : Upd Θ E F Θ') : Upd (Θ ++ Γ) E F (Θ' ++ Γ) := by
  induction h with
  | here => exact .here
  | there _ ih => exact .there ih
section
variable {P : Program} {n : Nat} {all : List Oper} {K : Env → Mm → Prop} {A : List Fl} {Θ Θ' C : Mm} {r : List PStep} {e : Env} {Γ Γ' : Mm} {j : Nat} {d : Option Tmp} {ty t t0 : TypeId} {x y : Operand}
/-- What was kept apart comes back. -/
theorem GS_nilP (h : K e (Θ ++ Γ)) : GS P n all K [] Θ [] e Γ := by
  intro B a Q fuel listed w hB ha hs M hQ hp hns hsz hsh hF hok
  obtain rfl : B = [] := by simpa using hB
  simp only [planM, Bool.and_eq_true, List.isEmpty_iff] at hok
  obtain rfl := Nat.eq_of_beq_eq_true hok.2
  exact ⟨hok.1.2, hQ a w e (Θ ++ Γ) ha (show Mem w (Θ ++ Γ) from M) h⟩
/-- Entries kept apart: no quiet operation looks at them. -/
theorem GC_drawsP {id : Nat} {l : List Oper} {Q : PostG} (pl : List PStep) (hm : P.follows .mixedOrders = true) (hns : Region.noSelect l.toArray = true) (hok : planM l.toArray pl l.toArray.size (Array.replicate l.toArray.size false) [] = true) (hC : Rems Γ C Γ')
    (h : GS P n l (fun e Γ => Q .normal e Γ) [] C pl e Γ') : GC P n (.region id l.toArray true) Q e Γ := fun w M a ha =>
  wp_region_any hm (wpAny_of_M _ _ _ _ _ (h [] a _ _ _ _ rfl ha (fun _ _ h => (by cases h)) (show Mem w.drew (C ++ Γ') from Mem.takes hC M.drew) (fun a' w' e' Γ' ha' M' hK => ⟨e', ha', Γ', M', hK⟩) lift_panic hns (by simp) (Shut.init _ _ _) ⟨fun _ h => (by cases h), List.Pairwise.nil, List.Pairwise.nil⟩ hok))
end
section
variable {P : Program} {n : Nat} {all : List Oper} {K : Env → Mm → Prop} {m : Md} {e : Env} {Γ Γ' Γ1 Γ2 Θ : Mm} {d : Option Tmp} {ty t t0 : TypeId} {x y : Operand} {c : Code} {Q : PostG} {td : TypeDesc} {sz by_ : Nat} {zv : Value} {ag : Bool}
theorem Wk.part {C D : Mm} (hR : Rems Γ C Γ1) (h : Wk C D) (h2 : Wk Γ1 Γ') : Wk Γ (D ++ Γ') := by
  refine ⟨fun w M => ?_, fun k hk => ?_⟩
  · have M1 := M.perm hR.perm
    exact (h.mem w M1.left).join (h2.mem w M1.right) fun k k1 k2 => M1.sep k (h.sub k k1) (h2.sub k k2)
  · rw [owns_perm hR.perm, owns_append]
    exact (owns_append.1 hk).imp (h.sub k) (h2.sub k)
end
theorem Wk.same {E F : Ent} (h1 : ∀ w, E.ok w → F.ok w) (h2 : ∀ k, F.own k → E.own k) : Wk [E] [F] := ⟨fun w M => Mem.one (h1 w M.head), fun k hk => owns_cons.2 ((owns_cons.1 hk).imp (h2 k) fun h => absurd h owns_nil)⟩
section
variable {P : Program} {e : Env} {w : World} {t : TypeId} {td : TypeDesc} {sz by_ : Nat} {zv : Value}
end
end SC
end Go.Proofs.YtclihihdgodloaaDoor
end
section
/- math/bits.Mul64, Mul; copy; slices.Repeat at numbers. -/
set_option linter.unusedVariables false
set_option linter.unusedSimpArgs false
namespace Go.Proofs.YtclihihdgodloaaDoor
namespace SC
open Go.Proofs
section
variable {P : Program} {n : Nat} {all : List Oper} {K : Env → Mm → Prop} {m : Md} {e : Env} {Γ Γ' : Mm} {d : Option Tmp} {ty t t' t0 : TypeId} {x y : Operand}
theorem p_uintX {a : Int} (h : ev e x = some (nu a)) : Pure Tryd.prog (.convert 3 55 x) ty e (.int .u64 (a % 18446744073709551616)) := by
  unfold Pure Does
  intro w ρ dst pos af g hρ
  have hw : IntKind.u64.wrap a = a % 18446744073709551616 := by rw [IntKind.wrap_u64]
  simp [execOp, hρ _ _ h, convert, Conv.intToInt, run_underlying Tryd.underlying3, run_underlying Tryd.underlying55, hw]
theorem G_uintX {a : Int} (h : ev e x = some (nu a)) (h0 : 0 ≤ a) (h1 : a ≤ 9223372036854775807) (hr : GN Tryd.prog n all K m (push d (.int .u64 a) e) Γ) : GX Tryd.prog n all K m d (.convert 3 55 x) ty e Γ :=
  GX_pure (p_uintX h) (by rw [Int.emod_eq_of_lt h0 (by omega)]; exact hr)
theorem p_ofuX {a : Int} (h : ev e x = some (.int .u64 a)) (h0 : 0 ≤ a) (h1 : a ≤ 9223372036854775807) : Pure Tryd.prog (.convert 55 3 x) ty e (nu a) := by
  unfold Pure Does
  intro w ρ dst pos af g hρ
  have hw : IntKind.i64.wrap a = a := by rw [IntKind.wrap_i64]; omega
  simp [execOp, hρ _ _ h, convert, Conv.intToInt, run_underlying Tryd.underlying3, run_underlying Tryd.underlying55, hw]
theorem G_ofuX {a : Int} (h : ev e x = some (.int .u64 a)) (h0 : 0 ≤ a) (h1 : a ≤ 9223372036854775807) (hr : GN Tryd.prog n all K m (push d (nu a) e) Γ) : GX Tryd.prog n all K m d (.convert 55 3 x) ty e Γ := GX_pure (p_ofuX h h0 h1) hr
theorem p_shrX {a : Int} (h : ev e x = some (.int .u64 a)) (h1 : ev e y = some (.int .u64 32)) (h2 : 0 ≤ a) (h3 : a < 4294967296) : Pure P (.binOp .shr t x y t') ty e (.int .u64 0) := by
  intro w ρ dst pos af g hρ
  have h5 : a.fdiv (2 ^ (min (32 : Int).toNat IntKind.u64.bits)) = 0 := by
    have e : (2 : Int) ^ (min (32 : Int).toNat IntKind.u64.bits) = 4294967296 := by decide
    rw [e, Int.fdiv_eq_ediv_of_nonneg _ (by decide)]
    omega
  simp [execOp, hρ _ _ h, hρ _ _ h1, eqGuard, binOp, Op.shift]
  exact h5
theorem p_andX {a : Int} (h : ev e x = some (.int .u64 a)) (h1 : ev e y = some (.int .u64 4294967295)) (h2 : 0 ≤ a) (h3 : a < 4294967296) : Pure P (.binOp .and t x y t') ty e (.int .u64 a) := by
  intro w ρ dst pos af g hρ
  have h5 : IntKind.u64.wrap (BitVec.ofInt IntKind.u64.bits a &&& BitVec.ofInt IntKind.u64.bits 4294967295).toNat = a := by
    obtain ⟨k, rfl⟩ : ∃ k : Nat, a = (k : Int) := ⟨a.toNat, by omega⟩
    have e1 : (BitVec.ofInt IntKind.u64.bits (k : Int) &&& BitVec.ofInt IntKind.u64.bits 4294967295).toNat = k := by
      rw [BitVec.toNat_and]
      have e2 : (BitVec.ofInt IntKind.u64.bits (k : Int)).toNat = k := by
        show (BitVec.ofInt 64 (k : Int)).toNat = k
        rw [BitVec.toNat_ofInt]
        omega
      have e3 : (BitVec.ofInt IntKind.u64.bits 4294967295).toNat = 2 ^ 32 - 1 := by decide
      rw [e2, e3, Nat.and_two_pow_sub_one_eq_mod]
      omega
    rw [e1, IntKind.wrap_u64]
    omega
  simp [execOp, hρ _ _ h, hρ _ _ h1, eqGuard, binOp, Op.intBits]
  exact h5
theorem p_mulX {a b : Int} (h : ev e x = some (.int .u64 a)) (h1 : ev e y = some (.int .u64 b)) (h2 : 0 ≤ a * b) (h3 : a * b < 18446744073709551616) : Pure P (.binOp .mul t x y t') ty e (.int .u64 (a * b)) := by
  intro w ρ dst pos af g hρ
  have h5 : IntKind.u64.wrap (a * b) = a * b := by rw [IntKind.wrap_u64, Int.emod_eq_of_lt h2 h3]
  simp [execOp, hρ _ _ h, hρ _ _ h1, eqGuard, binOp, Op.intArith, h5]
theorem p_addX {a b : Int} (h : ev e x = some (.int .u64 a)) (h1 : ev e y = some (.int .u64 b)) (h2 : 0 ≤ a + b) (h3 : a + b < 18446744073709551616) : Pure P (.binOp .add t x y t') ty e (.int .u64 (a + b)) := by
  intro w ρ dst pos af g hρ
  have h5 : IntKind.u64.wrap (a + b) = a + b := by rw [IntKind.wrap_u64, Int.emod_eq_of_lt h2 h3]
  simp [execOp, hρ _ _ h, hρ _ _ h1, eqGuard, binOp, Op.intArith, h5]
theorem G_shrX {a : Int} (h : ev e x = some (.int .u64 a)) (h1 : ev e y = some (.int .u64 32)) (h2 : 0 ≤ a) (h3 : a < 4294967296) (hr : GN P n all K m (push d (.int .u64 0) e) Γ) : GX P n all K m d (.binOp .shr t x y t') ty e Γ := GX_pure (p_shrX h h1 h2 h3) hr
theorem G_andX {a : Int} (h : ev e x = some (.int .u64 a)) (h1 : ev e y = some (.int .u64 4294967295)) (h2 : 0 ≤ a) (h3 : a < 4294967296) (hr : GN P n all K m (push d (.int .u64 a) e) Γ) : GX P n all K m d (.binOp .and t x y t') ty e Γ := GX_pure (p_andX h h1 h2 h3) hr
theorem G_mulX {a b : Int} (h : ev e x = some (.int .u64 a)) (h1 : ev e y = some (.int .u64 b)) (h2 : 0 ≤ a * b) (h3 : a * b < 18446744073709551616) (hr : GN P n all K m (push d (.int .u64 (a * b)) e) Γ) : GX P n all K m d (.binOp .mul t x y t') ty e Γ := GX_pure (p_mulX h h1 h2 h3) hr
theorem G_addX {a b : Int} (h : ev e x = some (.int .u64 a)) (h1 : ev e y = some (.int .u64 b)) (h2 : 0 ≤ a + b) (h3 : a + b < 18446744073709551616) (hr : GN P n all K m (push d (.int .u64 (a + b)) e) Γ) : GX P n all K m d (.binOp .add t x y t') ty e Γ := GX_pure (p_addX h h1 h2 h3) hr
/-! ### copy -/
theorem does_copy {td : TypeDesc} {zv : Value} {by_ : Nat} {ag : Bool} {w : World} {tt : TypeId} {b o dl dc sl sc : Nat} {a : Addr} {cur : Array Value} {cs : List Value} (hu : P.underlying t = some (.slice t0)) (T : Ty P t0 td 1 zv by_ ag) (h : ev e x = some (.slice (some ⟨b, o, none⟩) dl dc)) (h1 : ev e y = some (.slice (some a) sl sc)) (hg : w.heap[b]? = some (.cells cur tt (0, 0))) (hn : cs.length = Nat.min sl dl)
    (hsrc : ∀ j v, cs[j]? = some v → w.cell? (a.add j) = some v) (hfit : o + cs.length ≤ cur.size) (ho : ∀ v ∈ cs, v.oneCell' = true) :
    Does P (.call { callee := .builtin .copy, args := #[x, y], argTypes := #[t, t'] }) ty e w (.int .i64 (cs.length : Int)) (w.setRow b (cur.toList.take o ++ cs ++ cur.toList.drop (o + cs.length)).toArray) := by
  intro ρ dst pos af g hρ
  have hs : (P.info? t0).map (·.size) = some 1 := by
    have := T.info
    cases hq : P.info? t0 with
    | none => rw [hq] at this; cases this
    | some i =>
      rw [hq] at this
      simp only [Option.map_some, Option.some.injEq, Prod.mk.injEq] at this
      rw [Option.map_some, this.2.1]
  have hrun := run_copy_row P w t t' ty t0 b o dl dc a sl sc cur tt cs hu hs hg hn hsrc hfit ho
  simp [execOp, resolve, hρ _ _ h, hρ _ _ h1, invoke, builtin, hrun, goInt]
theorem flat_nu (l : List Int) : l.flatMap icell = l.map fun i => nu i := by
  induction l with
  | nil => rfl
  | cons a l ih => rw [List.flatMap_cons, List.map_cons, ih]; rfl
theorem vec_copy {w : World} {tt : TypeId} {b c o : Nat} {l xs : List Int} (h : w.ownsRow 0 tt 1 (.slice (some ⟨b, 0, none⟩) l.length c) l.length (l.flatMap icell)) (hf : o + xs.length ≤ l.length) :
    ∃ cur : Array Value, w.heap[b]? = some (.cells cur tt (0, 0)) ∧ o + xs.length ≤ cur.size ∧ (w.setRow b (cur.toList.take o ++ (xs.map fun i => nu i) ++ cur.toList.drop (o + xs.length)).toArray).ownsRow 0 tt 1 (.slice (some ⟨b, 0, none⟩) l.length c) l.length ((l.take o ++ xs ++ l.drop (o + xs.length)).flatMap icell) := by
  rcases h.2 with ⟨hv, hn⟩ | ⟨g, cap, cur, hv, h0, hcur, hcap, hm, hs, ht⟩
  · cases hv
  · cases hv
    rw [flat_nu, Nat.mul_one] at ht
    have hcl : cur.toList = (l.map fun i => nu i) ++ cur.toList.drop l.length := by rw [← ht, List.take_append_drop]
    have hlen : cur.toList.length = cur.size := Array.length_toList
    generalize cur.toList.drop l.length = rest at hcl
    have e1 : cur.toList.take o ++ (xs.map fun i => nu i) ++ cur.toList.drop (o + xs.length) = ((l.take o ++ xs ++ l.drop (o + xs.length)).map fun i => nu i) ++ rest := by
      rw [hcl, List.take_append_of_le_length (by rw [List.length_map]; omega), List.drop_append_of_le_length (by rw [List.length_map]; omega)]
      simp only [List.map_append, List.map_take, List.map_drop, List.append_assoc]
    have e2 : (l.take o ++ xs ++ l.drop (o + xs.length)).length = l.length := by simp; omega
    refine ⟨cur, hcur, by omega, by rw [flat_nu, List.length_map, e2, Nat.mul_one], .inr ⟨b, c, _, rfl, Nat.zero_le _, setRow_heap w b cur _ tt (0, 0) hcur, hcap, hm, ?_, ?_⟩⟩
    · rw [e1, List.size_toArray, List.length_append, List.length_map, e2, ← hs, ← hlen, hcl, List.length_append, List.length_map]
    · rw [flat_nu, e1, List.toList_toArray, Nat.mul_one, List.take_append_of_le_length (by rw [List.length_map, e2]; exact Nat.le_refl _), List.take_of_length_le (by rw [List.length_map, e2]; exact Nat.le_refl _)]
theorem G_copyI {td : TypeDesc} {zv zv1 : Value} {by_ by1 sz1 : Nat} {ag ag1 : Bool} {b c o dl dc sl sc : Nat} {l xs : List Int} {A : Addr} [U : Ty P t (.slice t0) sz1 zv1 by1 ag1] [T : Ty P t0 td 1 zv by_ ag] (hm : wrOk all m = true) (h : ev e x = some (.slice (some ⟨b, o, none⟩) dl dc)) (h1 : ev e y = some (.slice (some A) sl sc))
    (hU : Upd Γ (.vec icell 1 t0 (some ⟨b, 0, none⟩) c l) (.vec icell 1 t0 (some ⟨b, 0, none⟩) c (l.take o ++ xs ++ l.drop (o + xs.length))) Γ') (hn : xs.length = Nat.min sl dl) (hsrc : Rd Γ icell 1 (some A) xs) (hf : o + xs.length ≤ l.length)
    (hr : GN P n all K m (push d (nu xs.length) e) Γ') : GX P n all K m d (.call { callee := .builtin .copy, args := #[x, y], argTypes := #[t, t'] }) ty e Γ :=
  GX_acts (R := fun v Γ1 => v = nu xs.length ∧ Γ1 = Γ') hm (fun Δ w M => by
    have hb : (Ent.vec icell 1 t0 (some ⟨b, 0, none⟩) c l).ok w := by obtain ⟨R, p, _⟩ := hU.perm; exact M.right.ok _ (p.mem_iff.2 (by simp))
    obtain ⟨cur, hcur, hfit, hown⟩ := vec_copy (xs := xs) hb hf
    have hs := hsrc w M.right
    have hd := does_copy (t' := t') (ty := ty) U.und T h h1 hcur (cs := xs.map fun i => nu i) (by rw [List.length_map]; exact hn) (fun j v hj => by
      rw [List.getElem?_map] at hj
      rcases hg : xs[j]? with _ | z
      · rw [hg] at hj; cases hj
      · rw [hg] at hj
        have hj2 := (List.getElem?_eq_some_iff.1 hg)
        obtain ⟨hlt, he⟩ := hj2
        have := hs.at (i := (j : Int)) (j := 0) (by omega) (by omega) (u := v) (by rw [gt_nat hlt, he]; simpa [icell] using hj)
        rw [add_zero] at this
        simpa [At] using this) (by rw [List.length_map]; exact hfit) (fun v hv => by
      obtain ⟨z, _, rfl⟩ := List.mem_map.1 hv
      rfl)
    rw [List.length_map] at hd
    refine .inl ⟨_, _, hd, Γ', ?_, rfl, rfl⟩
    have hown' : (Ent.vec icell 1 t0 (some ⟨b, 0, none⟩) c (l.take o ++ xs ++ l.drop (o + xs.length))).ok (w.setRow b (cur.toList.take o ++ (xs.map fun i => nu i) ++ cur.toList.drop (o + xs.length)).toArray) := by
      show World.ownsRow _ _ _ _ _ _ _
      rw [show (l.take o ++ xs ++ l.drop (o + xs.length)).length = l.length by simp; omega]
      exact hown
    exact Mem.upd hU M (Chg.setRow w b _ (S := fun k => k = b) rfl) (fun k _ h => by subst h; rfl) hown' fun k hk => .inl hk) fun v Γ1 ⟨e1, e2⟩ => by rw [e1, e2]; exact hr
theorem G_copyIP {j : Nat} {A' : List Fl} {Θ Θ' : Mm} {r : List PStep} {td : TypeDesc} {zv zv1 : Value} {by_ by1 sz1 : Nat} {ag ag1 : Bool} {b c o dl dc sl sc : Nat} {l xs : List Int} {A : Addr} [U : Ty P t (.slice t0) sz1 zv1 by1 ag1] [T : Ty P t0 td 1 zv by_ ag] (h : ev e x = some (.slice (some ⟨b, o, none⟩) dl dc)) (h1 : ev e y = some (.slice (some A) sl sc))
    (hU : Upd Θ (.vec icell 1 t0 (some ⟨b, 0, none⟩) c l) (.vec icell 1 t0 (some ⟨b, 0, none⟩) c (l.take o ++ xs ++ l.drop (o + xs.length))) Θ') (hn : xs.length = Nat.min sl dl) (hsrc : Rd Θ icell 1 (some A) xs) (hf : o + xs.length ≤ l.length)
    (hr : GS P n all K A' Θ' r (push d (nu xs.length) e) Γ) : GX P n all K (.c j A' Θ r) d (.call { callee := .builtin .copy, args := #[x, y], argTypes := #[t, t'] }) ty e Γ := fun pos af g ho hg hd hA =>
  GS_priv (R := fun v Θ1 N => v = nu xs.length ∧ Θ1 = Θ' ∧ N = []) ho hg hd hA (fun Δ w M => by
    have hU' := hU.left (Γ := Γ)
    have hb : (Ent.vec icell 1 t0 (some ⟨b, 0, none⟩) c l).ok w := by obtain ⟨R, p, _⟩ := hU'.perm; exact M.right.ok _ (p.mem_iff.2 (by simp))
    obtain ⟨cur, hcur, hfit, hown⟩ := vec_copy (xs := xs) hb hf
    have hs := hsrc w M.right.left
    have hd := does_copy (t' := t') (ty := ty) U.und T h h1 hcur (cs := xs.map fun i => nu i) (by rw [List.length_map]; exact hn) (fun j v hj => by
      rw [List.getElem?_map] at hj
      rcases hg : xs[j]? with _ | z
      · rw [hg] at hj; cases hj
      · rw [hg] at hj
        have hj2 := (List.getElem?_eq_some_iff.1 hg)
        obtain ⟨hlt, he⟩ := hj2
        have := hs.at (i := (j : Int)) (j := 0) (by omega) (by omega) (u := v) (by rw [gt_nat hlt, he]; simpa [icell] using hj)
        rw [add_zero] at this
        simpa [At] using this) (by rw [List.length_map]; exact hfit) (fun v hv => by
      obtain ⟨z, _, rfl⟩ := List.mem_map.1 hv
      rfl)
    rw [List.length_map] at hd
    refine .inl ⟨_, _, hd, Θ', [], ?_, rfl, rfl, rfl⟩
    have hown' : (Ent.vec icell 1 t0 (some ⟨b, 0, none⟩) c (l.take o ++ xs ++ l.drop (o + xs.length))).ok (w.setRow b (cur.toList.take o ++ (xs.map fun i => nu i) ++ cur.toList.drop (o + xs.length)).toArray) := by
      show World.ownsRow _ _ _ _ _ _ _
      rw [show (l.take o ++ xs ++ l.drop (o + xs.length)).length = l.length by simp; omega]
      exact hown
    exact Mem.upd hU' M (Chg.setRow w b _ (S := fun k => k = b) rfl) (fun k _ h => by subst h; rfl) hown' fun k hk => .inl hk) fun v Θ1 N ⟨e1, e2, e3⟩ => by rw [e1, e2, e3]; exact hr
theorem G_slF {td : TypeDesc} {zv zv1 : Value} {by_ by1 sz1 : Nat} {ag ag1 : Bool} [U : Ty P t (.slice t0) sz1 zv1 by1 ag1] [T : Ty P t0 td 1 zv by_ ag] {b k c i : Nat} {ik : IntKind} (h : ev e x = some (.slice (some ⟨b, 0, none⟩) k c)) (h1 : ev e y = some (.int ik (i : Int))) (h0 : i < k) (h2 : k ≤ c)
    (hr : GN P n all K m (push d (.slice (some ⟨b, i, none⟩) (k - i) (c - i)) e) Γ) : GX P n all K m d (.slice t x (some y) none none) ty e Γ :=
  GX_pure (p_sliceFrom U.und T h h1 h0 h2) (by
    have e : (some (⟨b, 0, none⟩ : Addr)).map (·.add (i * 1)) = some ⟨b, i, none⟩ := by rw [Option.map_some, add_at, Nat.mul_one, Nat.zero_add]
    rw [e]
    exact hr)
theorem G_slT {td : TypeDesc} {zv zv1 : Value} {by_ by1 sz1 : Nat} {sz : Nat} {ag ag1 : Bool} [U : Ty P t (.slice t0) sz1 zv1 by1 ag1] [T : Ty P t0 td sz zv by_ ag] {A : Option Addr} {k c i : Nat} {ik : IntKind} (h : ev e x = some (.slice A k c)) (h1 : ev e y = some (.int ik (i : Int))) (h2 : i ≤ c)
    (hr : GN P n all K m (push d (.slice A i c) e) Γ) : GX P n all K m d (.slice t x none (some y) none) ty e Γ :=
  GX_pure (p_sliceTo U.und T h h1 (by omega) (by omega)) hr
end
theorem RowA.pre {w : World} {A : Option Addr} {xs ys : List Int} (h : RowA w icell 1 A (xs ++ ys)) : RowA w icell 1 A xs := fun k hk => by
  obtain ⟨p, hp, he⟩ := h k (by rw [List.length_append]; omega)
  refine ⟨p, hp, fun j u hj => he j u ?_⟩
  rwa [List.getElem_append_left hk]
theorem Rd.pre {Γ : Mm} {t : TypeId} {A : Option Addr} {c : Nat} {l xs ys : List Int} (hi : In Γ (.vec icell 1 t A c l)) (e : l = xs ++ ys) : Rd Γ icell 1 A xs := fun w M => RowA.pre (ys := ys) (by rw [← e]; exact hi.row M)
theorem Rd.emp {Γ : Mm} {A : Option Addr} : Rd Γ icell 1 A [] := fun w _ => RowA.emp
attribute [local irreducible] WC WL WX WS WO OX Does DoesU Enters CV Pure thenQ blockQ retQ Wants retQC GC GL GS GX RdB thenG blockG retG Rd At gt CVN CVM
set_option maxRecDepth 100000
theorem Mul64_cv {w : World} {k : Int} (h0 : 0 ≤ k) (h1 : k < 4294967296) : CVN Tryd.prog 95 [.int .u64 1, .int .u64 k] w fun v N => N = [] ∧ ∃ hi lo : Int, v = .tuple #[.int .u64 hi, .int .u64 lo] ∧ hi = 0 ∧ lo = k := by
  refine CVN.enter 51 [4, 5] Tryd.func95 rfl rfl rfl (by decide) rfl ?_
  repeat' (first
|(apply G_shrX;eq_refl;eq_refl;omega;omega)
|(apply G_andX;eq_refl;eq_refl;omega;omega)
|(apply G_mulX;eq_refl;eq_refl;omega;omega)
|(apply G_addX;eq_refl;eq_refl;omega;omega)
|(apply GC_seqK;intro K hK)
|(apply hK;clear hK K)
|(apply GC_region)
|(apply GL_nil)
|(apply thenG_normal)
|(apply GC_ret)
|(apply retG2;eq_refl;eq_refl)
|(apply GL_on;eq_refl;eq_refl)
|(apply G_pv;eq_refl;first|exact trivial|omega))
  exact ⟨[], (by repeat first | exact Wk.nil | exact Wk.refl | (apply Wk.cons; (focus ((repeat first | exact Rem.here | apply Rem.there | apply Rem.skip); done))) | apply Wk.nilv | apply Wk.last | apply Wk.drop), rfl, _, _, rfl, by omega, by omega⟩
theorem Mul_cv {w : World} {k : Int} (h0 : 0 ≤ k) (h1 : k < 4294967296) : CVN Tryd.prog 76 [.int .u64 1, .int .u64 k] w fun v N => N = [] ∧ v = .tuple #[.int .u64 0, .int .u64 k] := by
  have hm : ∀ w', CVN Tryd.prog 95 [.int .u64 1, .int .u64 k] w' _ := fun w' => Mul64_cv h0 h1
  refine CVN.enter 30 [4, 5] Tryd.func76 rfl rfl rfl (by decide) rfl ?_
  repeat' (first
|(apply G_call;eq_refl;eq_refl;(exact fun w' _ => hm w');rintro _ _ ⟨rfl, hi, lo, rfl, rfl, rfl⟩)
|(apply GC_seqK;intro K hK)
|(apply hK;clear hK K)
|(apply GC_region)
|(apply GL_nil)
|(apply thenG_normal)
|(apply GC_ret)
|(apply GC_skip)
|(apply GC_if_false;eq_refl)
|(apply retG2;eq_refl;eq_refl)
|(apply GL_on;eq_refl;eq_refl)
|(apply G_pv;eq_refl;first|exact trivial|omega))
  exact ⟨[], (by repeat first | exact Wk.nil | exact Wk.refl | (apply Wk.cons; (focus ((repeat first | exact Rem.here | apply Rem.there | apply Rem.skip); done))) | apply Wk.nilv | apply Wk.last | apply Wk.drop), rfl, rfl⟩
theorem rep_copy {v : Int} {q p : Nat} (h : p ≤ q) : (List.replicate p v ++ List.replicate (q - p) 0).take p ++ List.replicate (min p (q - p)) v ++ (List.replicate p v ++ List.replicate (q - p) (0 : Int)).drop (p + (List.replicate (min p (q - p)) v).length) = List.replicate (p + min p (q - p)) v ++ List.replicate (q - (p + min p (q - p))) 0 := by
  rw [List.take_append_of_le_length (by rw [List.length_replicate]; exact Nat.le_refl _), List.take_of_length_le (by rw [List.length_replicate]; exact Nat.le_refl _), List.length_replicate]
  rw [List.drop_append, List.length_replicate, List.drop_eq_nil_of_le (by rw [List.length_replicate]; omega), List.nil_append, List.drop_replicate, List.replicate_append_replicate]
  congr 2
  omega
set_option maxHeartbeats 800000 in
theorem Repeat_cv {w : World} {A : Addr} {k : Nat} {v : Int} {q : Nat} (hA : RowA w icell 1 (some A) [v]) (h1 : q ≤ 1000000) : CVN Tryd.prog 49 [.slice (some A) 1 k, nu q] w fun r N => ∃ b, r = .slice (some ⟨b, 0, none⟩) (List.replicate q v).length q ∧ N = [.vec icell 1 3 (some ⟨b, 0, none⟩) q (List.replicate q v)] := by
  have hm : ∀ w', CVN Tryd.prog 76 [.int .u64 1, .int .u64 (q : Int)] w' _ := fun w' => Mul_cv (by omega) (by omega)
  refine CVN.enter 48 [4] Tryd.func49 rfl rfl rfl (by decide) rfl ?_
  rcases q with _ | q
  · repeat' (first
|(apply G_uintX;eq_refl;omega;omega)
|(apply G_ofuX;eq_refl;omega;omega)
|(apply G_call;eq_refl;eq_refl;(exact fun w' _ => hm w');rintro _ _ ⟨rfl, rfl⟩)
|(apply G_makeI icell;eq_refl;eq_refl;omega;eq_refl;omega;decide;intro b)
|(apply G_copyI (xs := []);(first|exact wr_p|kernel_rfl);eq_refl;eq_refl;(repeat first|exact Upd.here|apply Upd.there|apply Upd.skip);decide;(exact Rd.emp);exact Nat.zero_le _)
|(apply GC_seqK;intro K hK)
|(apply hK;clear hK K)
|(apply GC_block)
|(apply GC_region)
|(apply GL_nil)
|(apply thenG_normal)
|(apply GC_skip)
|(apply GC_if_false;eq_refl)
|(apply GL_on;eq_refl;eq_refl)
|(apply G_pv;eq_refl;first|exact trivial|omega)
|(apply G_cmpF;eq_refl;eq_refl;omega)
|(apply G_len;eq_refl))
    refine GC_loopK [7] (fun p : Nat => [(8, nu p)]) (fun p => [.vec icell 1 3 (some ⟨b, 0, none⟩) 0 [], .old w none_]) (fun p => p = 0) (fun p => p) 0 (by repeat first | exact Pick.nil | (apply Pick.cons; eq_refl)) (by repeat first | exact trivial | refine ⟨rfl, ?_⟩) (by repeat first | exact Wk.nil | exact Wk.refl | (apply Wk.cons; (focus ((repeat first | exact Rem.here | apply Rem.there | apply Rem.skip); done))) | apply Wk.nilv | apply Wk.last | apply Wk.drop) rfl ?_
    rintro p rfl
    repeat' (first
|(apply GC_seqK;intro K hK)
|(apply hK;clear hK K)
|(clear hK K;apply hK;clear hK K)
|(apply GC_region)
|(apply GL_nil)
|(apply thenG_normal)
|(apply thenG_exit)
|(apply blockG_hit)
|(apply GC_ret)
|(apply GC_exit)
|(apply GC_if_false;eq_refl)
|(apply retG1;eq_refl)
|(apply GL_on;eq_refl;eq_refl)
|(apply G_pv;eq_refl;first|exact trivial|omega)
|(apply G_cmpF;eq_refl;eq_refl;omega)
|(apply G_len;eq_refl))
    exact ⟨[.vec icell 1 3 (some ⟨b, 0, none⟩) 0 []], (by repeat first | exact Wk.nil | exact Wk.refl | (apply Wk.cons; (focus ((repeat first | exact Rem.here | apply Rem.there | apply Rem.skip); done))) | apply Wk.nilv | apply Wk.last | apply Wk.drop), b, rfl, rfl⟩
  · repeat' (first
|(apply G_uintX;eq_refl;omega;omega)
|(apply G_ofuX;eq_refl;omega;omega)
|(apply G_call;eq_refl;eq_refl;(exact fun w' _ => hm w');rintro _ _ ⟨rfl, rfl⟩)
|(apply G_makeI icell;eq_refl;eq_refl;omega;eq_refl;omega;decide;intro b)
|(apply G_copyI (xs := [v]);(first|exact wr_p|kernel_rfl);eq_refl;eq_refl;(repeat first|exact Upd.here|apply Upd.there|apply Upd.skip);(exact (Nat.min_eq_left (Nat.le_add_left 1 q)).symm);(apply Rd.old;(repeat first|exact In.here|apply In.there|apply In.skip);exact hA);(rw [List.length_replicate];exact Nat.le_add_left 1 q))
|(apply GC_seqK;intro K hK)
|(apply hK;clear hK K)
|(apply GC_block)
|(apply GC_region)
|(apply GL_nil)
|(apply thenG_normal)
|(apply GC_skip)
|(apply GC_if_false;eq_refl)
|(apply GL_on;eq_refl;eq_refl)
|(apply G_pv;eq_refl;first|exact trivial|omega)
|(apply G_cmpF;eq_refl;eq_refl;omega)
|(apply G_len;eq_refl))
    refine GC_loopK [7] (fun p : Nat => [(8, nu p)]) (fun p => [.vec icell 1 3 (some ⟨b, 0, none⟩) (q + 1) (List.replicate p v ++ List.replicate (q + 1 - p) 0), .old w none_]) (fun p => 1 ≤ p ∧ p ≤ q + 1) (fun p => q + 1 - p) 1 (by repeat first | exact Pick.nil | (apply Pick.cons; eq_refl)) (by repeat first | exact trivial | refine ⟨rfl, ?_⟩) (by repeat first | exact Wk.nil | exact Wk.refl | (apply Wk.cons; (focus ((repeat first | exact Rem.here | apply Rem.there | apply Rem.skip); done))) | apply Wk.nilv | apply Wk.last | apply Wk.drop) ⟨Nat.le_refl _, by omega⟩ ?_
    rintro p ⟨p1, p2⟩
    rcases Nat.lt_or_ge p (q + 1) with hlt | hge
    · have e9 := rep_copy (v := v) (q := q + 1) (p := p) (by omega)
      have hlen : (List.replicate (min p (q + 1 - p)) v).length = min p (q + 1 - p) := List.length_replicate
      have hx : List.replicate p v ++ List.replicate (q + 1 - p) 0 = List.replicate (min p (q + 1 - p)) v ++ (List.replicate (p - min p (q + 1 - p)) v ++ List.replicate (q + 1 - p) 0) := by rw [← List.append_assoc, List.replicate_append_replicate, show min p (q + 1 - p) + (p - min p (q + 1 - p)) = p by omega]
      repeat' (first
|(apply GC_drawsP (id := 9) (C := [.vec icell 1 3 (some ⟨b, 0, none⟩) (q + 1) (List.replicate p v ++ List.replicate (q + 1 - p) 0)]) [.q 0, .q 1, .q 2, .q 3, .q 4, .q 5, .q 6, .c 7, .q 8, .q 9];exact mixed;kernel_rfl;kernel_rfl;(repeat first|exact Rems.nil|(apply Rems.cons;(focus ((repeat first|exact Rem.here|apply Rem.there|apply Rem.skip);done)))))
|(apply GS_nilP)
|(apply G_copyIP (xs := List.replicate (min p (q + 1 - p)) v);eq_refl;eq_refl;(repeat first|exact Upd.here|apply Upd.there|apply Upd.skip);(rw [List.length_replicate];rfl);(apply Rd.pre;(repeat first|exact In.here|apply In.there|apply In.skip);exact hx);(simp only [List.length_replicate, List.length_append];omega))
|(apply G_slF;eq_refl;eq_refl;(show p < q + 1;omega);exact Nat.le_refl _)
|(apply G_slT;eq_refl;eq_refl;(show p ≤ q + 1;omega))
|(apply GC_seqK;intro K hK)
|(apply hK;clear hK K)
|(apply GC_block)
|(apply GC_region)
|(apply GL_nil)
|(apply thenG_normal)
|(apply blockG_normal)
|(apply GC_skip)
|(apply GC_if_true;eq_refl)
|(apply GL_on;eq_refl;eq_refl)
|(apply GS_qon;eq_refl;eq_refl;eq_refl;eq_refl)
|(apply GS_con;eq_refl;eq_refl;eq_refl;eq_refl)
|(apply G_pv;eq_refl;first|exact trivial|omega)
|(apply G_cmpT;eq_refl;eq_refl;omega)
|(apply G_len;eq_refl))
      rw [e9, hlen]
      exact ⟨p + min p (q + 1 - p), (by repeat first | exact trivial | refine ⟨rfl, ?_⟩), (by repeat first | exact Wk.nil | exact Wk.refl | (apply Wk.cons; (focus ((repeat first | exact Rem.here | apply Rem.there | apply Rem.skip); done))) | apply Wk.nilv | apply Wk.last | apply Wk.drop), by omega, by omega⟩
    · obtain rfl : p = q + 1 := by omega
      rw [Nat.sub_self, List.replicate_zero, List.append_nil]
      repeat' (first
|(apply GC_seqK;intro K hK)
|(apply hK;clear hK K)
|(clear hK K;apply hK;clear hK K)
|(apply GC_region)
|(apply GL_nil)
|(apply thenG_normal)
|(apply thenG_exit)
|(apply blockG_hit)
|(apply GC_ret)
|(apply GC_exit)
|(apply GC_if_false;eq_refl)
|(apply retG1;eq_refl)
|(apply GL_on;eq_refl;eq_refl)
|(apply G_pv;eq_refl;first|exact trivial|omega)
|(apply G_cmpF;eq_refl;eq_refl;omega)
|(apply G_len;eq_refl))
      refine ⟨[.vec icell 1 3 (some ⟨b, 0, none⟩) (q + 1) (List.replicate (q + 1) v)], (by repeat first | exact Wk.nil | exact Wk.refl | (apply Wk.cons; (focus ((repeat first | exact Rem.here | apply Rem.there | apply Rem.skip); done))) | apply Wk.nilv | apply Wk.last | apply Wk.drop), b, ?_, rfl⟩
      rw [List.length_replicate]
      rfl
end SC
end Go.Proofs.YtclihihdgodloaaDoor
end
section
/- tern: of, isRow, values, next. -/
set_option linter.unusedVariables false
set_option linter.unusedSimpArgs false
namespace Go.Proofs.YtclihihdgodloaaDoor
namespace SC
open Go.Proofs
/-- What the tables hold. -/
structure TabG (w : World) : Prop where
  con : ∀ i : Nat, i < 3 → w.cell? ⟨0, i, none⟩ = some (nu (tnot i))
  both : ∀ i j : Nat, i < 3 → j < 3 → w.cell? ⟨1, i * 3 + j, none⟩ = some (nu (tand i j))
theorem TabG.chg {w w' : World} (H : TabG w) (hc : Chg w w' none_) : TabG w' := ⟨fun i hi => cel_chg (H.con i hi) hc id, fun i j hi hj => cel_chg (H.both i j hi hj) hc id⟩
theorem TabG.con' {w : World} (H : TabG w) {x : Int} (h : Is3 x) : w.cell? ⟨0, 0 + x.toNat * 1, none⟩ = some (nu (tnot x)) := by
  unfold Is3 at h
  have := H.con x.toNat (by omega)
  rwa [show ((x.toNat : Nat) : Int) = x by omega, show x.toNat = 0 + x.toNat * 1 by omega] at this
theorem TabG.both' {w : World} (H : TabG w) {x y : Int} (h : Is3 x) (h2 : Is3 y) : w.cell? ⟨1, 0 + x.toNat * 3 + y.toNat * 1, none⟩ = some (nu (tand x y)) := by
  unfold Is3 at h h2
  have := H.both x.toNat y.toNat (by omega) (by omega)
  rwa [show ((x.toNat : Nat) : Int) = x by omega, show ((y.toNat : Nat) : Int) = y by omega, show x.toNat * 3 + y.toNat = 0 + x.toNat * 3 + y.toNat * 1 by omega] at this
section
variable {P : Program} {n : Nat} {all : List Oper} {K : Env → Mm → Prop} {m : Md} {e : Env} {Γ Γ' : Mm} {d : Option Tmp} {ty t t' t0 : TypeId} {x y : Operand}
theorem G_ixP {td : TypeDesc} {zv zv1 : Value} {by_ by1 sz1 sz : Nat} {ag ag1 : Bool} {b o mm : Nat} {i : Int} {k : IntKind} [U : Ty P t (.array mm t0) sz1 zv1 by1 ag1] [T : Ty P t0 td sz zv by_ ag] (h : ev e x = some (.pointer (some ⟨b, o, none⟩))) (h1 : ev e y = some (.int k i)) (h0 : 0 ≤ i) (h2 : i < mm)
    (hr : GN P n all K m (push d (.pointer (some ⟨b, o + i.toNat * sz, none⟩)) e) Γ) : GX P n all K m d (.indexAddr t x y) ty e Γ := GX_def (fun w M => does_indexA h h1 h0 h2) hr
end
attribute [local irreducible] WC WL WX WS WO OX Does DoesU Enters CV Pure thenQ blockQ retQ Wants retQC GC GL GS GX RdB thenG blockG retG Rd At gt CVN CVM
set_option maxRecDepth 100000
theorem of3_cv {w : World} {A : Option Addr} {k c : Nat} {v : List Int} {l : Int} (G : TabG w) (hA : RowA w icell 1 A v) (hk : k = v.length) (hv : Row3 v) (h0 : 0 ≤ l / 2) (h1 : l / 2 < v.length) (hl : v.length ≤ 1000000) : CVN Tryd.prog 43 [.slice A k c, nu l] w fun r N => N = [] ∧ r = nu (tl v l) := by
  have h3 := hv.gt h0 h1
  have hc := G.con' h3
  unfold tl
  have h3' := h3
  unfold Is3 at h3'
  refine CVN.enter 20 [4] Tryd.func43 rfl rfl rfl (by decide) rfl ?_
  by_cases ho : l % 2 = 1
  · rw [if_pos ho]
    repeat' (first
|(apply G_ixP;eq_refl;eq_refl;omega;omega)
|(apply G_ldC;eq_refl;(repeat first|exact In.here|apply In.there|apply In.skip);exact hc)
|(apply GC_seqK;intro K hK)
|(apply hK;clear hK K)
|(apply GC_region)
|(apply GL_nil)
|(apply thenG_normal)
|(apply thenG_ret)
|(apply GC_ret)
|(apply GC_if_true;eq_refl)
|(apply retG1;eq_refl)
|(apply GL_on;eq_refl;eq_refl)
|(apply G_pv;eq_refl;first|exact trivial|omega)
|(apply G_rd;eq_refl;(first|(apply Rd.own;(repeat first|exact In.here|apply In.there|apply In.skip);infer_instance)|(apply Rd.old;(repeat first|exact In.here|apply In.there|apply In.skip);assumption)|(apply Rd.oldR;(repeat first|exact In.here|apply In.there|apply In.skip);assumption)|exact Rd.nil|assumption);(case ih => infer_instance);omega;omega;eq_refl)
|(apply G_cmpT;eq_refl;eq_refl;omega)
|(apply G_ix;eq_refl;eq_refl;(first|(apply Rd.own;(repeat first|exact In.here|apply In.there|apply In.skip);infer_instance)|(apply Rd.old;(repeat first|exact In.here|apply In.there|apply In.skip);assumption)|(apply Rd.oldR;(repeat first|exact In.here|apply In.there|apply In.skip);assumption)|exact Rd.nil|assumption);(first|eq_refl|omega);omega;omega))
    exact ⟨[], (by repeat first | exact Wk.nil | exact Wk.refl | (apply Wk.cons; (focus ((repeat first | exact Rem.here | apply Rem.there | apply Rem.skip); done))) | apply Wk.nilv | apply Wk.last | apply Wk.drop), rfl, rfl⟩
  · rw [if_neg ho]
    repeat' (first
|(apply GC_seqK;intro K hK)
|(apply hK;clear hK K)
|(apply GC_region)
|(apply GL_nil)
|(apply thenG_normal)
|(apply GC_ret)
|(apply GC_skip)
|(apply GC_if_false;eq_refl)
|(apply retG1;eq_refl)
|(apply GL_on;eq_refl;eq_refl)
|(apply G_pv;eq_refl;first|exact trivial|omega)
|(apply G_rd;eq_refl;(first|(apply Rd.own;(repeat first|exact In.here|apply In.there|apply In.skip);infer_instance)|(apply Rd.old;(repeat first|exact In.here|apply In.there|apply In.skip);assumption)|(apply Rd.oldR;(repeat first|exact In.here|apply In.there|apply In.skip);assumption)|exact Rd.nil|assumption);(case ih => infer_instance);omega;omega;eq_refl)
|(apply G_cmpF;eq_refl;eq_refl;omega)
|(apply G_ix;eq_refl;eq_refl;(first|(apply Rd.own;(repeat first|exact In.here|apply In.there|apply In.skip);infer_instance)|(apply Rd.old;(repeat first|exact In.here|apply In.there|apply In.skip);assumption)|(apply Rd.oldR;(repeat first|exact In.here|apply In.there|apply In.skip);assumption)|exact Rd.nil|assumption);(first|eq_refl|omega);omega;omega))
    exact ⟨[], (by repeat first | exact Wk.nil | exact Wk.refl | (apply Wk.cons; (focus ((repeat first | exact Rem.here | apply Rem.there | apply Rem.skip); done))) | apply Wk.nilv | apply Wk.last | apply Wk.drop), rfl, rfl⟩
theorem isRow1_cv {w : World} {x : Int} : CVN Tryd.prog 86 [nu x] w fun v N => N = [] ∧ v = .bool (!(decide (0 ≤ x) && decide (x ≤ 2))) := by
  refine CVN.enter 9 [2] Tryd.func86 rfl rfl rfl (by decide) rfl ?_
  by_cases h0 : x < 0
  · rw [decide_eq_false (by omega : ¬ 0 ≤ x)]
    repeat' (first
|(apply GC_seqK;intro K hK)
|(apply hK;clear hK K)
|(apply GC_region)
|(apply GL_nil)
|(apply thenG_normal)
|(apply GC_ret)
|(apply retG1;eq_refl)
|(apply GL_on;eq_refl;eq_refl)
|(apply GL_off;eq_refl;eq_refl)
|(apply G_pv;eq_refl;first|exact trivial|omega)
|(apply G_cmpT;eq_refl;eq_refl;omega))
    exact ⟨[], (by repeat first | exact Wk.nil | exact Wk.refl | (apply Wk.cons; (focus ((repeat first | exact Rem.here | apply Rem.there | apply Rem.skip); done))) | apply Wk.nilv | apply Wk.last | apply Wk.drop), rfl, rfl⟩
  · rw [decide_eq_true (by omega : 0 ≤ x)]
    by_cases h1 : 2 < x
    · rw [decide_eq_false (by omega : ¬ x ≤ 2)]
      repeat' (first
|(apply GC_seqK;intro K hK)
|(apply hK;clear hK K)
|(apply GC_region)
|(apply GL_nil)
|(apply thenG_normal)
|(apply GC_ret)
|(apply retG1;eq_refl)
|(apply GL_on;eq_refl;eq_refl)
|(apply G_pv;eq_refl;first|exact trivial|omega)
|(apply G_cmpT;eq_refl;eq_refl;omega)
|(apply G_cmpF;eq_refl;eq_refl;omega))
      exact ⟨[], (by repeat first | exact Wk.nil | exact Wk.refl | (apply Wk.cons; (focus ((repeat first | exact Rem.here | apply Rem.there | apply Rem.skip); done))) | apply Wk.nilv | apply Wk.last | apply Wk.drop), rfl, rfl⟩
    · rw [decide_eq_true (by omega : x ≤ 2)]
      repeat' (first
|(apply GC_seqK;intro K hK)
|(apply hK;clear hK K)
|(apply GC_region)
|(apply GL_nil)
|(apply thenG_normal)
|(apply GC_ret)
|(apply retG1;eq_refl)
|(apply GL_on;eq_refl;eq_refl)
|(apply G_pv;eq_refl;first|exact trivial|omega)
|(apply G_cmpF;eq_refl;eq_refl;omega))
      exact ⟨[], (by repeat first | exact Wk.nil | exact Wk.refl | (apply Wk.cons; (focus ((repeat first | exact Rem.here | apply Rem.there | apply Rem.skip); done))) | apply Wk.nilv | apply Wk.last | apply Wk.drop), rfl, rfl⟩
/-- Are so many values? -/
def rowB (l : List Int) (k : Nat) : Bool := decide (l.length = k) && l.all fun x => decide (0 ≤ x) && decide (x ≤ 2)
theorem rowB_iff {l : List Int} {k : Nat} : rowB l k = true ↔ l.length = k ∧ Row3 l := by
  unfold rowB Row3 Is3
  rw [Bool.and_eq_true, decide_eq_true_iff, List.all_eq_true]
  simp only [Bool.and_eq_true, decide_eq_true_iff]
theorem isRow_cv {w : World} {A : Option Addr} {k : Nat} {l : List Int} {q : Nat} (hA : RowA w icell 1 A l) (hl : l.length ≤ 9223372036854775807) : CVN Tryd.prog 61 [.slice A l.length k, nu q] w fun v N => N = [] ∧ v = .bool (rowB l q) := by
  have hcf : ∀ Γ, In Γ (.old w none_) → ∀ w', Mem w' Γ → CVN Tryd.prog 41 [.slice A l.length k, .func (.func 86) #[] #[]] w' _ := fun Γ ho w' M => containsFunc_cv (f := 86) (cap := #[]) (p := fun x => !(decide (0 ≤ x) && decide (x ≤ 2))) (k := k) (hA.chg (ho.old M)) (by omega) fun x hx w2 hc => isRow1_cv
  refine CVN.enter 14 [4] Tryd.func61 rfl rfl rfl (by decide) rfl ?_
  by_cases hq : l.length = q
  · repeat' (first
|(apply G_call;eq_refl;eq_refl;(apply hcf;(repeat first|exact In.here|apply In.there|apply In.skip));rintro _ _ ⟨rfl, rfl⟩)
|(apply GC_seqK;intro K hK)
|(apply hK;clear hK K)
|(apply GC_region)
|(apply GL_nil)
|(apply thenG_normal)
|(apply GC_ret)
|(apply retG1;eq_refl)
|(apply GL_on;eq_refl;eq_refl)
|(apply G_pv;eq_refl;first|exact trivial|omega)
|(apply G_cmpT;eq_refl;eq_refl;omega)
|(apply G_len;eq_refl))
    refine ⟨[], (by repeat first | exact Wk.nil | exact Wk.refl | (apply Wk.cons; (focus ((repeat first | exact Rem.here | apply Rem.there | apply Rem.skip); done))) | apply Wk.nilv | apply Wk.last | apply Wk.drop), rfl, ?_⟩
    unfold rowB
    rw [decide_eq_true hq, Bool.true_and, List.all_eq_not_any_not]
  · repeat' (first
|(apply GC_seqK;intro K hK)
|(apply hK;clear hK K)
|(apply GC_region)
|(apply GL_nil)
|(apply thenG_normal)
|(apply GC_ret)
|(apply retG1;eq_refl)
|(apply GL_on;eq_refl;eq_refl)
|(apply GL_off;eq_refl;eq_refl)
|(apply G_pv;eq_refl;first|exact trivial|omega)
|(apply G_cmpF;eq_refl;eq_refl;omega)
|(apply G_len;eq_refl))
    refine ⟨[], (by repeat first | exact Wk.nil | exact Wk.refl | (apply Wk.cons; (focus ((repeat first | exact Rem.here | apply Rem.there | apply Rem.skip); done))) | apply Wk.nilv | apply Wk.last | apply Wk.drop), rfl, ?_⟩
    unfold rowB
    rw [decide_eq_false hq]
    rfl
end SC
end Go.Proofs.YtclihihdgodloaaDoor
end
section
/- tern: values, next, ready, looked, Values, Step. -/
set_option linter.unusedVariables false
set_option linter.unusedSimpArgs false
namespace Go.Proofs.YtclihihdgodloaaDoor
namespace SC
open Go.Proofs
theorem tB_of {c : Circ} {q : Nat} (hq : c.max = (q : Int)) : (List.replicate (q + 1) (2 : Int)).set (0 : Int).toNat 0 = tB c := by
  unfold tB
  rw [hq]
  rfl
attribute [local irreducible] WC WL WX WS WO OX Does DoesU Enters CV Pure thenQ blockQ retQ Wants retQC GC GL GS GX RdB thenG blockG retG Rd At gt CVN CVM
set_option maxRecDepth 100000
set_option maxHeartbeats 1600000 in
theorem valuesT_cv {w : World} {c : Circ} {h js : Hd} {p : Nat} {B S T : Option Addr} {k1 k2 k3 : Nat} {s r : List Int} (G : TabG w) (R : Right c) (hP : Blk w p 103 (rcells c h B k1)) (H : CirAt w c h js) (hB : RowA w icell 1 B (ordM c)) (hS : RowA w icell 1 S s) (hT : RowA w icell 1 T r) (hs : s.length = c.latches.length) (hr : r.length = c.inputs.length) (h3 : Row3 s) (h4 : Row3 r) :
    CVN Tryd.prog 45 [pt p, .slice S s.length k2, .slice T r.length k3] w fun v N => ∃ A' k', v = .slice A' (valT c s r).length k' ∧ N = [.vec icell 1 3 A' k' (valT c s r)] := by
  have hLat := H.latches
  have hInp := H.inputs
  have hAnd := H.ands
  have m0 := R.m0
  have m1 := R.m1
  have n1 := R.nIn
  have n2 := R.nLat
  have n3 := R.nAnd
  have n4 := R.ordLen
  obtain ⟨q, hq⟩ : ∃ q : Nat, c.max = (q : Int) := ⟨c.max.toNat, by omega⟩
  have hRep : ∀ Γ b, In Γ (.box b 3 [nu 2]) → ∀ w', Mem w' Γ → CVN Tryd.prog 49 [.slice (some ⟨b, 0, none⟩) 1 1, nu (c.max + 1)] w' fun r N => ∃ b, r = .slice (some ⟨b, 0, none⟩) (q + 1) (q + 1) ∧ N = [.vec icell 1 3 (some ⟨b, 0, none⟩) (q + 1) (List.replicate (q + 1) 2)] := fun Γ b hi w' M => by
    have := Repeat_cv (k := 1) (v := 2) (q := q + 1) (RowA.blk (l := [2]) (fun _ => rfl) (hi.box M)) (by omega)
    rw [List.length_replicate] at this
    rwa [hq]
  have hrl : (List.replicate (q + 1) (2 : Int)).length = q + 1 := List.length_replicate
  refine CVN.enter 101 [6] Tryd.func45 rfl rfl rfl (by decide) rfl ?_
  repeat' (first
|(apply G_call;eq_refl;eq_refl;(apply hRep;(repeat first|exact In.here|apply In.there|apply In.skip));rintro _ _ ⟨b1, rfl, rfl⟩)
|(apply GC_seqK;intro K hK)
|(apply hK;clear hK K)
|(apply GC_block)
|(apply GC_region)
|(apply GL_nil)
|(apply thenG_normal)
|(apply GL_on;eq_refl;eq_refl)
|(apply G_pv;eq_refl;first|exact trivial|omega)
|(apply G_field;eq_refl)
|(apply G_ldO;eq_refl;(repeat first|exact In.here|apply In.there|apply In.skip);assumption;eq_refl)
|(apply G_len;eq_refl)
|(apply G_ix;eq_refl;eq_refl;(first|(apply Rd.own;(repeat first|exact In.here|apply In.there|apply In.skip);infer_instance)|(apply Rd.old;(repeat first|exact In.here|apply In.there|apply In.skip);assumption)|(apply Rd.oldR;(repeat first|exact In.here|apply In.there|apply In.skip);assumption)|exact Rd.nil|assumption);(first|eq_refl|omega);omega;omega)
|(apply G_stV;(first|exact wr_p|kernel_rfl);eq_refl;eq_refl;eq_refl;eq_refl;(repeat first|exact Upd.here|apply Upd.there|apply Upd.skip);infer_instance;infer_instance;eq_refl;omega;(try simp only [List.length_set, List.length_append, List.length_replicate]);omega)
|(apply G_new (fun b => .slice (some ⟨b, 0, none⟩) 1 1);eq_refl;(intro _;apply buildS22_1 <;> eq_refl);intro _))
  rw [tB_of hq]
  have hb0 := tB_len (c := c) m0
  refine GC_loopK [0, 1, 2, 7, 29, 30] (fun s : Nat × List Int => [(31, nu s.1)]) (fun s => [.vec icell 1 3 (some ⟨b1, 0, none⟩) (q + 1) s.2, .old w none_]) (fun s => s.1 ≤ c.inputs.length ∧ s.2 = tIn c r s.1) (fun s => c.inputs.length - s.1) (0, _) (by repeat first | exact Pick.nil | (apply Pick.cons; eq_refl)) (by repeat first | exact trivial | refine ⟨rfl, ?_⟩) (by repeat first | exact Wk.nil | exact Wk.refl | (apply Wk.cons; (focus ((repeat first | exact Rem.here | apply Rem.there | apply Rem.skip); done))) | apply Wk.nilv | apply Wk.last | apply Wk.drop) ⟨Nat.zero_le _, rfl⟩ ?_
  rintro ⟨i, v⟩ ⟨hi, hv⟩
  dsimp only at hi hv ⊢
  have hlen : v.length = (c.max + 1).toNat := by rw [hv, tIn_len m0]
  rcases Nat.lt_or_ge i c.inputs.length with hlt | hge
  · have hd := R.inp (gt_mem (l := c.inputs) (i := (i : Int)) (by omega) (by omega))
    have hst := tIn_succ c r i
    rw [← hv] at hst
    unfold defR at hd
    repeat' (first
|(apply GC_seqK;intro K hK)
|(apply hK;clear hK K)
|(apply GC_block)
|(apply GC_region)
|(apply GL_nil)
|(apply thenG_normal)
|(apply blockG_normal)
|(apply GC_skip)
|(apply GC_if_true;eq_refl)
|(apply GL_on;eq_refl;eq_refl)
|(apply G_pv;eq_refl;first|exact trivial|omega)
|(apply G_rd;eq_refl;(first|(apply Rd.own;(repeat first|exact In.here|apply In.there|apply In.skip);infer_instance)|(apply Rd.old;(repeat first|exact In.here|apply In.there|apply In.skip);assumption)|(apply Rd.oldR;(repeat first|exact In.here|apply In.there|apply In.skip);assumption)|exact Rd.nil|assumption);(case ih => infer_instance);omega;omega;eq_refl)
|(apply G_cmpT;eq_refl;eq_refl;omega)
|(apply G_ix;eq_refl;eq_refl;(first|(apply Rd.own;(repeat first|exact In.here|apply In.there|apply In.skip);infer_instance)|(apply Rd.old;(repeat first|exact In.here|apply In.there|apply In.skip);assumption)|(apply Rd.oldR;(repeat first|exact In.here|apply In.there|apply In.skip);assumption)|exact Rd.nil|assumption);(first|eq_refl|omega);omega;omega)
|(apply G_stV;(first|exact wr_p|kernel_rfl);eq_refl;eq_refl;eq_refl;eq_refl;(repeat first|exact Upd.here|apply Upd.there|apply Upd.skip);infer_instance;infer_instance;eq_refl;omega;(try simp only [List.length_set, List.length_append, List.length_replicate]);omega))
    exact ⟨(i + 1, _), (by repeat first | exact trivial | refine ⟨rfl, ?_⟩), (by repeat first | exact Wk.nil | exact Wk.refl | (apply Wk.cons; (focus ((repeat first | exact Rem.here | apply Rem.there | apply Rem.skip); done))) | apply Wk.nilv | apply Wk.last | apply Wk.drop), ⟨hlt, hst.symm⟩, by simp only; omega⟩
  · obtain rfl : i = c.inputs.length := by omega
    have hvr : Row3 v := by rw [hv]; exact tIn_row h4 _ (by omega)
    repeat' (first
|(apply GC_seqK;intro K hK)
|(apply hK;clear hK K)
|(clear hK K;apply hK;clear hK K)
|(apply GC_block)
|(apply GC_region)
|(apply GL_nil)
|(apply thenG_normal)
|(apply thenG_exit)
|(apply blockG_hit)
|(apply GC_exit)
|(apply GC_if_false;eq_refl)
|(apply GL_on;eq_refl;eq_refl)
|(apply G_pv;eq_refl;first|exact trivial|omega)
|(apply G_field;eq_refl)
|(apply G_ldO;eq_refl;(repeat first|exact In.here|apply In.there|apply In.skip);assumption;eq_refl)
|(apply G_cmpF;eq_refl;eq_refl;omega)
|(apply G_len;eq_refl))
    refine GC_loopK [0, 1, 2, 7, 49, 50] (fun s : Nat × List Int => [(51, nu s.1)]) (fun s => [.vec icell 1 3 (some ⟨b1, 0, none⟩) (q + 1) s.2, .old w none_]) (fun t => t.1 ≤ c.latches.length ∧ t.2 = tLt c s v t.1) (fun s => c.latches.length - s.1) (0, _) (by repeat first | exact Pick.nil | (apply Pick.cons; eq_refl)) (by repeat first | exact trivial | refine ⟨rfl, ?_⟩) (by repeat first | exact Wk.nil | exact Wk.refl | (apply Wk.cons; (focus ((repeat first | exact Rem.here | apply Rem.there | apply Rem.skip); done))) | apply Wk.nilv | apply Wk.last | apply Wk.drop) ⟨Nat.zero_le _, rfl⟩ ?_
    rintro ⟨i, v2⟩ ⟨hi2, hv2⟩
    dsimp only at hi2 hv2 ⊢
    have hlen2 : v2.length = (c.max + 1).toNat := by rw [hv2, tLt_len, hlen]
    rcases Nat.lt_or_ge i c.latches.length with hlt | hge
    · have hd := (R.lat (gt_mem (l := c.latches) (i := (i : Int)) (by omega) (by omega))).1
      have hst := tLt_succ c s v i
      rw [← hv2] at hst
      unfold defR at hd
      repeat' (first
|(apply GC_seqK;intro K hK)
|(apply hK;clear hK K)
|(apply GC_block)
|(apply GC_region)
|(apply GL_nil)
|(apply thenG_normal)
|(apply blockG_normal)
|(apply GC_skip)
|(apply GC_if_true;eq_refl)
|(apply GL_on;eq_refl;eq_refl)
|(refine GC_draws (id := 11) [.q 0, .q 1, .q 2, .q 3, .q 4, .q 5, .q 6, .q 7, .q 8, .c 9] mixed (by kernel_rfl) (by kernel_rfl) ?_)
|(apply GS_nil)
|(apply GS_qon;eq_refl;eq_refl;eq_refl;eq_refl)
|(apply GS_con;eq_refl;eq_refl;eq_refl;eq_refl)
|(apply G_pv;eq_refl;first|exact trivial|omega)
|(apply G_field;eq_refl)
|(apply G_ld;eq_refl;(repeat first|exact In.here|apply In.there|apply In.skip);eq_refl)
|(apply G_rd;eq_refl;(first|(apply Rd.own;(repeat first|exact In.here|apply In.there|apply In.skip);infer_instance)|(apply Rd.old;(repeat first|exact In.here|apply In.there|apply In.skip);assumption)|(apply Rd.oldR;(repeat first|exact In.here|apply In.there|apply In.skip);assumption)|exact Rd.nil|assumption);(case ih => infer_instance);omega;omega;eq_refl)
|(apply G_rdW;eq_refl;(first|(apply Rd.own;(repeat first|exact In.here|apply In.there|apply In.skip);infer_instance)|(apply Rd.old;(repeat first|exact In.here|apply In.there|apply In.skip);assumption)|(apply Rd.oldR;(repeat first|exact In.here|apply In.there|apply In.skip);assumption)|exact Rd.nil|assumption);infer_instance;(case ih => infer_instance);omega;omega)
|(apply G_cmpT;eq_refl;eq_refl;omega)
|(apply G_ix;eq_refl;eq_refl;(first|(apply Rd.own;(repeat first|exact In.here|apply In.there|apply In.skip);infer_instance)|(apply Rd.old;(repeat first|exact In.here|apply In.there|apply In.skip);assumption)|(apply Rd.oldR;(repeat first|exact In.here|apply In.there|apply In.skip);assumption)|exact Rd.nil|assumption);(first|eq_refl|omega);omega;omega)
|(apply G_alloc;eq_refl;intro _)
|(apply G_stV;(first|exact wr_p|kernel_rfl);eq_refl;eq_refl;eq_refl;eq_refl;(repeat first|exact Upd.here|apply Upd.there|apply Upd.skip);infer_instance;infer_instance;eq_refl;omega;(try simp only [List.length_set, List.length_append, List.length_replicate]);omega)
|(apply G_stW;(first|exact wr_p|kernel_rfl);eq_refl;eq_refl;eq_refl;eq_refl;(repeat first|exact Upd.here|apply Upd.there|apply Upd.skip);eq_refl))
      exact ⟨(i + 1, _), (by repeat first | exact trivial | refine ⟨rfl, ?_⟩), (by repeat first | exact Wk.nil | exact Wk.refl | (apply Wk.cons; (focus ((repeat first | exact Rem.here | apply Rem.there | apply Rem.skip); done))) | apply Wk.nilv | apply Wk.last | apply Wk.drop), ⟨hlt, hst.symm⟩, by simp only; omega⟩
    · obtain rfl : i = c.latches.length := by omega
      have hvr2 : Row3 v2 := by rw [hv2]; exact tLt_row h3 hvr _ (by omega)
      repeat' (first
|(apply GC_seqK;intro K hK)
|(apply hK;clear hK K)
|(clear hK K;apply hK;clear hK K)
|(apply GC_block)
|(apply GC_region)
|(apply GL_nil)
|(apply thenG_normal)
|(apply thenG_exit)
|(apply blockG_hit)
|(apply GC_exit)
|(apply GC_if_false;eq_refl)
|(apply GL_on;eq_refl;eq_refl)
|(apply G_pv;eq_refl;first|exact trivial|omega)
|(apply G_field;eq_refl)
|(apply G_ldO;eq_refl;(repeat first|exact In.here|apply In.there|apply In.skip);assumption;eq_refl)
|(apply G_cmpF;eq_refl;eq_refl;omega)
|(apply G_len;eq_refl))
      refine GC_loopK [0, 7, 69, 70] (fun s : Nat × List Int => [(71, nu s.1)]) (fun s => [.vec icell 1 3 (some ⟨b1, 0, none⟩) (q + 1) s.2, .old w none_]) (fun t => t.1 ≤ (ordM c).length ∧ t.2 = tAn c (ordM c) v2 t.1) (fun s => (ordM c).length - s.1) (0, _) (by repeat first | exact Pick.nil | (apply Pick.cons; eq_refl)) (by repeat first | exact trivial | refine ⟨rfl, ?_⟩) (by repeat first | exact Wk.nil | exact Wk.refl | (apply Wk.cons; (focus ((repeat first | exact Rem.here | apply Rem.there | apply Rem.skip); done))) | apply Wk.nilv | apply Wk.last | apply Wk.drop) ⟨Nat.zero_le _, rfl⟩ ?_
      rintro ⟨i, v3⟩ ⟨hi3, hv3⟩
      dsimp only at hi3 hv3 ⊢
      have hlen3 : v3.length = (c.max + 1).toNat := by rw [hv3, tAn_len, hlen2]
      have hvr3 : Row3 v3 := by rw [hv3]; exact tAn_row hvr2 _
      rcases Nat.lt_or_ge i (ordM c).length with hlt | hge
      · have ho := R.ord (gt_mem (l := ordM c) (i := (i : Int)) (by omega) (by omega))
        have hst := tAn_succ c (ordM c) v2 i
        rw [← hv3] at hst
        obtain ⟨hd, hl1, hl2⟩ := R.gate (gt_mem (l := c.ands) ho.1 ho.2)
        have u1 := hl1.hasI hlen3
        have u2 := hl2.hasI hlen3
        unfold defR at hd
        have hof : ∀ Γ, In Γ (.old w none_) → In Γ (.vec icell 1 3 (some ⟨b1, 0, none⟩) (q + 1) v3) → ∀ l : Int, 0 ≤ l / 2 → l / 2 < v3.length → ∀ w', Mem w' Γ → CVN Tryd.prog 43 [.slice (some ⟨b1, 0, none⟩) (q + 1) (q + 1), nu l] w' fun r N => N = [] ∧ r = nu (tl v3 l) := fun Γ hi hv l g0 g1 w' M => of3_cv (G.chg (hi.old M)) (hv.row M) (by omega) hvr3 g0 g1 (by omega)
        have ho1 := fun Γ hi hv w' M => hof Γ hi hv _ u1.1 u1.2 w' M
        have ho2 := fun Γ hi hv w' M => hof Γ hi hv _ u2.1 u2.2 w' M
        have x3 := hvr3.tl u1.1 u1.2
        have y3 := hvr3.tl u2.1 u2.2
        have hbo := G.both' x3 y3
        generalize tl v3 (gt c.ands (gt (ordM c) (i : Int))).2.1 = x at *
        generalize tl v3 (gt c.ands (gt (ordM c) (i : Int))).2.2 = y at *
        have x3' := x3
        have y3' := y3
        unfold Is3 at x3' y3'
        repeat' (first
|(apply G_call;eq_refl;eq_refl;(apply ho1;(repeat first|exact In.here|apply In.there|apply In.skip);(repeat first|exact In.here|apply In.there|apply In.skip));rintro _ _ ⟨rfl, rfl⟩)
|(apply G_call;eq_refl;eq_refl;(apply ho2;(repeat first|exact In.here|apply In.there|apply In.skip);(repeat first|exact In.here|apply In.there|apply In.skip));rintro _ _ ⟨rfl, rfl⟩)
|(apply G_ixP;eq_refl;eq_refl;omega;omega)
|(apply G_ldC;eq_refl;(repeat first|exact In.here|apply In.there|apply In.skip);exact hbo)
|(apply GC_seqK;intro K hK)
|(apply hK;clear hK K)
|(apply GC_block)
|(apply GC_region)
|(apply GL_nil)
|(apply thenG_normal)
|(apply blockG_normal)
|(apply GC_skip)
|(apply GC_if_true;eq_refl)
|(apply GL_on;eq_refl;eq_refl)
|(refine GC_draws (id := 17) [.q 0, .q 1, .q 2, .q 3, .q 4, .q 5, .q 6, .q 8, .q 9, .q 10, .c 7, .q 12, .c 11, .q 13, .q 14, .q 15, .c 16] mixed (by kernel_rfl) (by kernel_rfl) ?_)
|(apply GS_nil)
|(apply GS_qon;eq_refl;eq_refl;eq_refl;eq_refl)
|(apply GS_con;eq_refl;eq_refl;eq_refl;eq_refl)
|(apply G_pv;eq_refl;first|exact trivial|omega)
|(apply G_field;eq_refl)
|(apply G_ld;eq_refl;(repeat first|exact In.here|apply In.there|apply In.skip);eq_refl)
|(apply G_ldO;eq_refl;(repeat first|exact In.here|apply In.there|apply In.skip);assumption;eq_refl)
|(apply G_rd;eq_refl;(first|(apply Rd.own;(repeat first|exact In.here|apply In.there|apply In.skip);infer_instance)|(apply Rd.old;(repeat first|exact In.here|apply In.there|apply In.skip);assumption)|(apply Rd.oldR;(repeat first|exact In.here|apply In.there|apply In.skip);assumption)|exact Rd.nil|assumption);(case ih => infer_instance);omega;omega;eq_refl)
|(apply G_rdW;eq_refl;(first|(apply Rd.own;(repeat first|exact In.here|apply In.there|apply In.skip);infer_instance)|(apply Rd.old;(repeat first|exact In.here|apply In.there|apply In.skip);assumption)|(apply Rd.oldR;(repeat first|exact In.here|apply In.there|apply In.skip);assumption)|exact Rd.nil|assumption);infer_instance;(case ih => infer_instance);omega;omega)
|(apply G_cmpT;eq_refl;eq_refl;omega)
|(apply G_ix;eq_refl;eq_refl;(first|(apply Rd.own;(repeat first|exact In.here|apply In.there|apply In.skip);infer_instance)|(apply Rd.old;(repeat first|exact In.here|apply In.there|apply In.skip);assumption)|(apply Rd.oldR;(repeat first|exact In.here|apply In.there|apply In.skip);assumption)|exact Rd.nil|assumption);(first|eq_refl|omega);omega;omega)
|(apply G_alloc;eq_refl;intro _)
|(apply G_stV;(first|exact wr_p|kernel_rfl);eq_refl;eq_refl;eq_refl;eq_refl;(repeat first|exact Upd.here|apply Upd.there|apply Upd.skip);infer_instance;infer_instance;eq_refl;omega;(try simp only [List.length_set, List.length_append, List.length_replicate]);omega)
|(apply G_stW;(first|exact wr_p|kernel_rfl);eq_refl;eq_refl;eq_refl;eq_refl;(repeat first|exact Upd.here|apply Upd.there|apply Upd.skip);eq_refl))
        exact ⟨(i + 1, _), (by repeat first | exact trivial | refine ⟨rfl, ?_⟩), (by repeat first | exact Wk.nil | exact Wk.refl | (apply Wk.cons; (focus ((repeat first | exact Rem.here | apply Rem.there | apply Rem.skip); done))) | apply Wk.nilv | apply Wk.last | apply Wk.drop), ⟨hlt, hst.symm⟩, by simp only; omega⟩
      · obtain rfl : i = (ordM c).length := by omega
        repeat' (first
|(apply GC_seqK;intro K hK)
|(apply hK;clear hK K)
|(clear hK K;apply hK;clear hK K)
|(apply GC_region)
|(apply GL_nil)
|(apply thenG_normal)
|(apply thenG_exit)
|(apply blockG_hit)
|(apply GC_ret)
|(apply GC_exit)
|(apply GC_if_false;eq_refl)
|(apply retG1;eq_refl)
|(apply GL_on;eq_refl;eq_refl)
|(apply G_pv;eq_refl;first|exact trivial|omega)
|(apply G_cmpF;eq_refl;eq_refl;omega))
        subst hv3 hv2 hv
        have e9 := valT_len m0 s r
        refine ⟨[.vec icell 1 3 (some ⟨b1, 0, none⟩) (q + 1) (valT c s r)], (by repeat first | exact Wk.nil | exact Wk.refl | (apply Wk.cons; (focus ((repeat first | exact Rem.here | apply Rem.there | apply Rem.skip); done))) | apply Wk.nilv | apply Wk.last | apply Wk.drop), some ⟨b1, 0, none⟩, q + 1, by rw [e9, hq]; rfl, rfl⟩
end SC
end Go.Proofs.YtclihihdgodloaaDoor
end
section
/- tern: ready, next, looked, Values, Step, resets, Resets. -/
set_option linter.unusedVariables false
set_option linter.unusedSimpArgs false
namespace Go.Proofs.YtclihihdgodloaaDoor
namespace SC
open Go.Proofs
/-- What ready answers. -/
def ReadyT (c : Circ) (h : Hd) (v : Value) (N : Mm) : Prop :=
  ((lookM c).2 ≠ 0 ∧ v = .tuple #[.pointer none, nu (lookM c).2] ∧ N = []) ∨ ((lookM c).2 = 0 ∧ ∃ p B k, v = .tuple #[pt p, nu 0] ∧ N = [.box p 103 (rcells c h B k), .vec icell 1 3 B k (ordM c)])
/-- What is wrong with rows. -/
noncomputable def twE (c : Circ) (s r : List Int) : Int := if (lookM c).2 ≠ 0 then (lookM c).2 else if (rowB s c.latches.length && rowB r c.inputs.length) = true then 0 else 80
theorem twE_look {c : Circ} {s r : List Int} (h : (lookM c).2 ≠ 0) : twE c s r = (lookM c).2 := if_pos h
theorem twE_ok {c : Circ} {s r : List Int} (h : (lookM c).2 = 0) (h1 : rowB s c.latches.length = true) (h2 : rowB r c.inputs.length = true) : twE c s r = 0 := by unfold twE; rw [if_neg (by omega), h1, h2]; rfl
theorem twE_no {c : Circ} {s r : List Int} (h : (lookM c).2 = 0) (h1 : (rowB s c.latches.length && rowB r c.inputs.length) = false) : twE c s r = 80 := by unfold twE; rw [if_neg (by omega), h1]; rfl
theorem twE_zero {c : Circ} {s r : List Int} (h : twE c s r = 0) : (lookM c).2 = 0 ∧ (s.length = c.latches.length ∧ Row3 s) ∧ r.length = c.inputs.length ∧ Row3 r := by
  unfold twE at h
  split at h
  · exact absurd h (by assumption)
  · split at h
    · rename_i h1 h2
      rw [Bool.and_eq_true] at h2
      exact ⟨by omega, rowB_iff.1 h2.1, rowB_iff.1 h2.2⟩
    · cases h
def LookedT (c : Circ) (h : Hd) (s r : List Int) (v : Value) (N : Mm) : Prop :=
  (twE c s r ≠ 0 ∧ v = .tuple #[.pointer none, .slice none 0 0, nu (twE c s r)] ∧ N = []) ∨
  (twE c s r = 0 ∧ ∃ p B k A k', v = .tuple #[pt p, .slice A (valT c s r).length k', nu 0] ∧ N = [.vec icell 1 3 A k' (valT c s r), .box p 103 (rcells c h B k), .vec icell 1 3 B k (ordM c)])
/-- A list of numbers and an error as an answer. -/
def IntsE (m : List Int) (ε : Int) (v : Value) (N : Mm) : Prop := ∃ A k, v = .tuple #[.slice A m.length k, nu ε] ∧ N = [.vec icell 1 3 A k m]
noncomputable def tvM (c : Circ) (s r : List Int) : List Int := if twE c s r = 0 then valT c s r else []
noncomputable def tnM (c : Circ) (s r : List Int) : List Int := if twE c s r = 0 then nxtT c (valT c s r) else []
noncomputable def trsM (c : Circ) : List Int := if (lookM c).2 = 0 then rsT c else []
attribute [local irreducible] WC WL WX WS WO OX Does DoesU Enters CV Pure thenQ blockQ retQ Wants retQC GC GL GS GX RdB thenG blockG retG Rd At gt CVN CVM
set_option maxRecDepth 100000
theorem readyT_cv {w : World} {c : Circ} {h js : Hd} (H : CirIn w c h js) : CVN Tryd.prog 48 [.agg (ccells c h).toArray] w (ReadyT c h) := by
  have hord : ∀ Γ, In Γ (.old w none_) → ∀ w', Mem w' Γ → CVN Tryd.prog 75 [.agg (ccells c h).toArray] w' (OrdR c) := fun Γ hi w' M => have H' := H.chg (hi.old M); OrderG H'.at_ H'.sane
  refine CVN.enter 18 [2, 3] Tryd.func48 rfl rfl rfl (by decide) rfl ?_
  repeat' (first
|(apply G_call;eq_refl;eq_refl;(apply hord;(repeat first|exact In.here|apply In.there|apply In.skip));rintro _ _ (⟨he, rfl, rfl⟩|⟨he, A1, k1, rfl, rfl⟩))
|(apply GC_seqK;intro K hK)
|(apply hK;clear hK K)
|(apply GC_region)
|(apply GL_nil)
|(apply thenG_normal)
|(apply thenG_ret)
|(apply GC_ret)
|(apply GC_skip)
|(apply GC_if_true;eq_refl)
|(apply GC_if_false;eq_refl)
|(apply retG2;eq_refl;eq_refl)
|(apply GL_on;eq_refl;eq_refl)
|(apply G_pv;eq_refl;first|exact trivial|omega)
|(apply G_ldW;eq_refl;(repeat first|exact In.here|apply In.there|apply In.skip);eq_refl)
|(apply G_cmpT;eq_refl;eq_refl;omega)
|(apply G_cmpF;eq_refl;eq_refl;omega)
|(apply G_box;eq_refl;eq_refl;intro _)
|(apply GX_pure;apply build103_0_1 <;> eq_refl))
  · exact ⟨[], (by repeat first | exact Wk.nil | exact Wk.refl | (apply Wk.cons; (focus ((repeat first | exact Rem.here | apply Rem.there | apply Rem.skip); done))) | apply Wk.nilv | apply Wk.last | apply Wk.drop), .inl ⟨he, rfl, rfl⟩⟩
  · exact ⟨[.box _ 103 (rcells c h A1 k1), _], (by repeat first | exact Wk.nil | exact Wk.refl | (apply Wk.cons; (focus ((repeat first | exact Rem.here | apply Rem.there | apply Rem.skip); done))) | apply Wk.nilv | apply Wk.last | apply Wk.drop), .inr ⟨he, _, _, _, rfl, rfl⟩⟩
theorem nextT_cv {w : World} {c : Circ} {h js : Hd} {p : Nat} {B A : Option Addr} {k1 k : Nat} {v : List Int} (G : TabG w) (R : Right c) (hP : Blk w p 103 (rcells c h B k1)) (H : CirAt w c h js) (hA : RowA w icell 1 A v) (hv : Row3 v) (hl : v.length = (c.max + 1).toNat) :
    CVN Tryd.prog 52 [pt p, .slice A v.length k] w fun r N => ∃ A' k', r = .slice A' (nxtT c v).length k' ∧ N = [.vec icell 1 3 A' k' (nxtT c v)] := by
  have hLat := H.latches
  have hn := R.nLat
  have m1 := R.m1
  have fl0 : fillL (fun x : Tri => tl v x.2.1) c.latches 0 0 = List.replicate c.latches.length 0 := fillL_0
  refine CVN.enter 35 [4] Tryd.func52 rfl rfl rfl (by decide) rfl ?_
  repeat' (first
|(apply G_make icell;eq_refl;eq_refl;eq_refl;omega;decide;intro b1)
|(apply GC_seqK;intro K hK)
|(apply hK;clear hK K)
|(apply GC_block)
|(apply GC_region)
|(apply GL_nil)
|(apply thenG_normal)
|(apply GL_on;eq_refl;eq_refl)
|(apply G_pv;eq_refl;first|exact trivial|omega)
|(apply G_field;eq_refl)
|(apply G_ldO;eq_refl;(repeat first|exact In.here|apply In.there|apply In.skip);assumption;eq_refl)
|(apply G_len;eq_refl))
  refine GC_loopK [1, 5, 19, 20] (fun s : Nat × List Int => [(21, nu s.1)]) (fun s => [.vec icell 1 3 (some ⟨b1, 0, none⟩) c.latches.length s.2, .old w none_]) (fun s => s.1 ≤ c.latches.length ∧ s.2 = fillL (fun x => tl v x.2.1) c.latches 0 s.1) (fun s => c.latches.length - s.1) (0, List.replicate c.latches.length 0) (by repeat first | exact Pick.nil | (apply Pick.cons; eq_refl)) (by repeat first | exact trivial | refine ⟨rfl, ?_⟩) (by repeat first | exact Wk.nil | exact Wk.refl | (apply Wk.cons; (focus ((repeat first | exact Rem.here | apply Rem.there | apply Rem.skip); done))) | apply Wk.nilv | apply Wk.last | apply Wk.drop) ⟨Nat.zero_le _, fl0.symm⟩ ?_
  rintro ⟨i, out⟩ ⟨hi, hout⟩
  dsimp only at hi hout ⊢
  have hlen : out.length = c.latches.length := by rw [hout, fillL_len hi]
  rcases Nat.lt_or_ge i c.latches.length with hlt | hge
  · have u := (R.lat (gt_mem (l := c.latches) (i := (i : Int)) (by omega) (by omega))).2.1.hasI hl
    have hst := fillL_set (f := fun x : Tri => tl v x.2.1) (z := (0 : Int)) hlt
    rw [← hout] at hst
    have hof : ∀ Γ, In Γ (.old w none_) → ∀ w', Mem w' Γ → CVN Tryd.prog 43 [.slice A v.length k, nu (gt c.latches (i : Int)).2.1] w' _ := fun Γ ho w' M => of3_cv (G.chg (ho.old M)) (hA.chg (ho.old M)) rfl hv u.1 u.2 (by omega)
    repeat' (first
|(apply G_call;eq_refl;eq_refl;(apply hof;(repeat first|exact In.here|apply In.there|apply In.skip));rintro _ _ ⟨rfl, rfl⟩)
|(apply GC_seqK;intro K hK)
|(apply hK;clear hK K)
|(apply GC_block)
|(apply GC_region)
|(apply GL_nil)
|(apply thenG_normal)
|(apply blockG_normal)
|(apply GC_skip)
|(apply GC_if_true;eq_refl)
|(apply GL_on;eq_refl;eq_refl)
|(apply G_pv;eq_refl;first|exact trivial|omega)
|(apply G_field;eq_refl)
|(apply G_ld;eq_refl;(repeat first|exact In.here|apply In.there|apply In.skip);eq_refl)
|(apply G_rdW;eq_refl;(first|(apply Rd.own;(repeat first|exact In.here|apply In.there|apply In.skip);infer_instance)|(apply Rd.old;(repeat first|exact In.here|apply In.there|apply In.skip);assumption)|(apply Rd.oldR;(repeat first|exact In.here|apply In.there|apply In.skip);assumption)|exact Rd.nil|assumption);infer_instance;(case ih => infer_instance);omega;omega)
|(apply G_cmpT;eq_refl;eq_refl;omega)
|(apply G_ix;eq_refl;eq_refl;(first|(apply Rd.own;(repeat first|exact In.here|apply In.there|apply In.skip);infer_instance)|(apply Rd.old;(repeat first|exact In.here|apply In.there|apply In.skip);assumption)|(apply Rd.oldR;(repeat first|exact In.here|apply In.there|apply In.skip);assumption)|exact Rd.nil|assumption);(first|eq_refl|omega);omega;omega)
|(apply G_alloc;eq_refl;intro _)
|(apply G_stV;(first|exact wr_p|kernel_rfl);eq_refl;eq_refl;eq_refl;eq_refl;(repeat first|exact Upd.here|apply Upd.there|apply Upd.skip);infer_instance;infer_instance;eq_refl;omega;(try simp only [List.length_set, List.length_append, List.length_replicate]);omega)
|(apply G_stW;(first|exact wr_p|kernel_rfl);eq_refl;eq_refl;eq_refl;eq_refl;(repeat first|exact Upd.here|apply Upd.there|apply Upd.skip);eq_refl))
    exact ⟨(i + 1, _), (by repeat first | exact trivial | refine ⟨rfl, ?_⟩), (by repeat first | exact Wk.nil | exact Wk.refl | (apply Wk.cons; (focus ((repeat first | exact Rem.here | apply Rem.there | apply Rem.skip); done))) | apply Wk.nilv | apply Wk.last | apply Wk.drop), ⟨hlt, hst⟩, by simp only; omega⟩
  · rw [fillL_all hge] at hout
    repeat' (first
|(apply GC_seqK;intro K hK)
|(apply hK;clear hK K)
|(clear hK K;apply hK;clear hK K)
|(apply GC_region)
|(apply GL_nil)
|(apply thenG_normal)
|(apply thenG_exit)
|(apply blockG_hit)
|(apply GC_ret)
|(apply GC_exit)
|(apply GC_if_false;eq_refl)
|(apply retG1;eq_refl)
|(apply GL_on;eq_refl;eq_refl)
|(apply G_pv;eq_refl;first|exact trivial|omega)
|(apply G_cmpF;eq_refl;eq_refl;omega))
    have e1 : c.latches.length = (nxtT c v).length := by unfold nxtT; simp
    refine ⟨[.vec icell 1 3 (some ⟨b1, 0, none⟩) c.latches.length out], (by repeat first | exact Wk.nil | exact Wk.refl | (apply Wk.cons; (focus ((repeat first | exact Rem.here | apply Rem.there | apply Rem.skip); done))) | apply Wk.nilv | apply Wk.last | apply Wk.drop), some ⟨b1, 0, none⟩, c.latches.length, by rw [e1], by rw [hout]; rfl⟩
section
variable {w : World} {c : Circ} {h js : Hd} {S T : Option Addr} {k2 k3 : Nat} {s r : List Int} (G : TabG w) (H : CirIn w c h js) (hS : RowA w icell 1 S s) (hT : RowA w icell 1 T r) (hs : s.length ≤ 9223372036854775807) (hr : r.length ≤ 9223372036854775807)
include G H hS hT hs hr
theorem lookedT_cv : CVN Tryd.prog 39 [.agg (ccells c h).toArray, .slice S s.length k2, .slice T r.length k3] w (LookedT c h s r) := by
  have hrd : ∀ Γ, In Γ (.old w none_) → ∀ w', Mem w' Γ → CVN Tryd.prog 48 [.agg (ccells c h).toArray] w' (ReadyT c h) := fun Γ hi w' M => readyT_cv (H.chg (hi.old M))
  have hr1 : ∀ Γ, In Γ (.old w none_) → ∀ w', Mem w' Γ → CVN Tryd.prog 61 [.slice S s.length k2, nu c.latches.length] w' _ := fun Γ hi w' M => isRow_cv (hS.chg (hi.old M)) hs
  have hr2 : ∀ Γ, In Γ (.old w none_) → ∀ w', Mem w' Γ → CVN Tryd.prog 61 [.slice T r.length k3, nu c.inputs.length] w' _ := fun Γ hi w' M => isRow_cv (hT.chg (hi.old M)) hr
  have hvl : twE c s r = 0 → ∀ Γ p B k, In Γ (.old w none_) → In Γ (.box p 103 (rcells c h B k)) → In Γ (.vec icell 1 3 B k (ordM c)) → ∀ w', Mem w' Γ → CVN Tryd.prog 45 [pt p, .slice S s.length k2, .slice T r.length k3] w' _ := fun he Γ p B k hi hb hv w' M => by
    obtain ⟨z0, ⟨z1, z2⟩, z3, z4⟩ := twE_zero he
    have H' := H.chg (hi.old M)
    exact valuesT_cv (G.chg (hi.old M)) (right_of H'.at_ H'.sane z0) (hb.box M) H'.at_ (hv.row M) (hS.chg (hi.old M)) (hT.chg (hi.old M)) z1 z3 z2 z4
  have hInp := H.at_.inputs
  have hLat := H.at_.latches
  unfold LookedT
  refine CVN.enter 38 [6, 7, 8] Tryd.func39 rfl rfl rfl (by decide) rfl ?_
  by_cases he : (lookM c).2 = 0
  · cases h1 : rowB s c.latches.length
    · have e0 := twE_no (s := s) (r := r) he (by rw [h1]; rfl)
      rw [h1] at hr1
      rw [e0]
      repeat' (first
|(apply G_call;eq_refl;eq_refl;(apply hrd;(repeat first|exact In.here|apply In.there|apply In.skip));rintro _ _ (⟨he', rfl, rfl⟩|⟨_, p1, A1, k1, rfl, rfl⟩);(exact absurd he he'))
|(apply G_call;eq_refl;eq_refl;(apply hr1;(repeat first|exact In.here|apply In.there|apply In.skip));rintro _ _ ⟨rfl, rfl⟩)
|(apply GC_seqK;intro K hK)
|(apply hK;clear hK K)
|(apply GC_region)
|(apply GL_nil)
|(apply thenG_normal)
|(apply thenG_ret)
|(apply GC_ret)
|(apply GC_skip)
|(apply GC_if_true;eq_refl)
|(apply GC_if_false;eq_refl)
|(apply retG3;eq_refl;eq_refl;eq_refl)
|(apply GL_on;eq_refl;eq_refl)
|(apply GL_off;eq_refl;eq_refl)
|(apply G_pv;eq_refl;first|exact trivial|omega)
|(apply G_field;eq_refl)
|(apply G_ld;eq_refl;(repeat first|exact In.here|apply In.there|apply In.skip);eq_refl)
|(apply G_ldW;eq_refl;(repeat first|exact In.here|apply In.there|apply In.skip);eq_refl)
|(apply G_cmpF;eq_refl;eq_refl;omega)
|(apply G_len;eq_refl)
|(apply G_box;eq_refl;eq_refl;intro _))
      exact ⟨[], (by repeat first | exact Wk.nil | exact Wk.refl | (apply Wk.cons; (focus ((repeat first | exact Rem.here | apply Rem.there | apply Rem.skip); done))) | apply Wk.nilv | apply Wk.last | apply Wk.drop), .inl ⟨by decide, rfl, rfl⟩⟩
    · rw [h1] at hr1
      cases h2 : rowB r c.inputs.length
      · have e0 := twE_no (s := s) (r := r) he (by rw [h1, h2]; rfl)
        rw [h2] at hr2
        rw [e0]
        repeat' (first
|(apply G_call;eq_refl;eq_refl;(apply hrd;(repeat first|exact In.here|apply In.there|apply In.skip));rintro _ _ (⟨he', rfl, rfl⟩|⟨_, p1, A1, k1, rfl, rfl⟩);(exact absurd he he'))
|(apply G_call;eq_refl;eq_refl;(apply hr1;(repeat first|exact In.here|apply In.there|apply In.skip));rintro _ _ ⟨rfl, rfl⟩)
|(apply G_call;eq_refl;eq_refl;(apply hr2;(repeat first|exact In.here|apply In.there|apply In.skip));rintro _ _ ⟨rfl, rfl⟩)
|(apply GC_seqK;intro K hK)
|(apply hK;clear hK K)
|(apply GC_region)
|(apply GL_nil)
|(apply thenG_normal)
|(apply thenG_ret)
|(apply GC_ret)
|(apply GC_skip)
|(apply GC_if_true;eq_refl)
|(apply GC_if_false;eq_refl)
|(apply retG3;eq_refl;eq_refl;eq_refl)
|(apply GL_on;eq_refl;eq_refl)
|(apply G_pv;eq_refl;first|exact trivial|omega)
|(apply G_field;eq_refl)
|(apply G_ld;eq_refl;(repeat first|exact In.here|apply In.there|apply In.skip);eq_refl)
|(apply G_ldW;eq_refl;(repeat first|exact In.here|apply In.there|apply In.skip);eq_refl)
|(apply G_cmpF;eq_refl;eq_refl;omega)
|(apply G_len;eq_refl)
|(apply G_box;eq_refl;eq_refl;intro _))
        exact ⟨[], (by repeat first | exact Wk.nil | exact Wk.refl | (apply Wk.cons; (focus ((repeat first | exact Rem.here | apply Rem.there | apply Rem.skip); done))) | apply Wk.nilv | apply Wk.last | apply Wk.drop), .inl ⟨by decide, rfl, rfl⟩⟩
      · have e0 := twE_ok he h1 h2
        have hv := hvl e0
        rw [h2] at hr2
        rw [e0]
        repeat' (first
|(apply G_call;eq_refl;eq_refl;(apply hrd;(repeat first|exact In.here|apply In.there|apply In.skip));rintro _ _ (⟨he', rfl, rfl⟩|⟨_, p1, A1, k1, rfl, rfl⟩);(exact absurd he he'))
|(apply G_call;eq_refl;eq_refl;(apply hr1;(repeat first|exact In.here|apply In.there|apply In.skip));rintro _ _ ⟨rfl, rfl⟩)
|(apply G_call;eq_refl;eq_refl;(apply hr2;(repeat first|exact In.here|apply In.there|apply In.skip));rintro _ _ ⟨rfl, rfl⟩)
|(apply G_call;eq_refl;eq_refl;(apply hv;(repeat first|exact In.here|apply In.there|apply In.skip);(repeat first|exact In.here|apply In.there|apply In.skip);(repeat first|exact In.here|apply In.there|apply In.skip));rintro _ _ ⟨A2, k4, rfl, rfl⟩)
|(apply GC_seqK;intro K hK)
|(apply hK;clear hK K)
|(apply GC_region)
|(apply GL_nil)
|(apply thenG_normal)
|(apply GC_ret)
|(apply GC_skip)
|(apply GC_if_false;eq_refl)
|(apply retG3;eq_refl;eq_refl;eq_refl)
|(apply GL_on;eq_refl;eq_refl)
|(apply G_pv;eq_refl;first|exact trivial|omega)
|(apply G_field;eq_refl)
|(apply G_ld;eq_refl;(repeat first|exact In.here|apply In.there|apply In.skip);eq_refl)
|(apply G_ldW;eq_refl;(repeat first|exact In.here|apply In.there|apply In.skip);eq_refl)
|(apply G_cmpF;eq_refl;eq_refl;omega)
|(apply G_len;eq_refl)
|(apply G_box;eq_refl;eq_refl;intro _))
        exact ⟨[_, _, _], (by repeat first | exact Wk.nil | exact Wk.refl | (apply Wk.cons; (focus ((repeat first | exact Rem.here | apply Rem.there | apply Rem.skip); done))) | apply Wk.nilv | apply Wk.last | apply Wk.drop), .inr ⟨rfl, _, _, _, _, _, rfl, rfl⟩⟩
  · have e0 := twE_look (s := s) (r := r) he
    rw [e0]
    repeat' (first
|(apply G_call;eq_refl;eq_refl;(apply hrd;(repeat first|exact In.here|apply In.there|apply In.skip));rintro _ _ (⟨_, rfl, rfl⟩|⟨he', p1, A1, k1, rfl, rfl⟩);rotate_left;(exact absurd he' he))
|(apply GC_seqK;intro K hK)
|(apply hK;clear hK K)
|(apply GC_region)
|(apply GL_nil)
|(apply thenG_normal)
|(apply thenG_ret)
|(apply GC_ret)
|(apply GC_if_true;eq_refl)
|(apply retG3;eq_refl;eq_refl;eq_refl)
|(apply GL_on;eq_refl;eq_refl)
|(apply G_pv;eq_refl;first|exact trivial|omega)
|(apply G_ldW;eq_refl;(repeat first|exact In.here|apply In.there|apply In.skip);eq_refl)
|(apply G_cmpT;eq_refl;eq_refl;omega)
|(apply G_box;eq_refl;eq_refl;intro _))
    exact ⟨[], (by repeat first | exact Wk.nil | exact Wk.refl | (apply Wk.cons; (focus ((repeat first | exact Rem.here | apply Rem.there | apply Rem.skip); done))) | apply Wk.nilv | apply Wk.last | apply Wk.drop), .inl ⟨he, rfl, rfl⟩⟩
end
end SC
end Go.Proofs.YtclihihdgodloaaDoor
end
section
/- trestleref08: Not, And, Lit0, Values0, row, Values, step, Step. -/
set_option linter.unusedVariables false
set_option linter.unusedSimpArgs false
namespace Go.Proofs.YtclihihdgodloaaDoor
namespace SC
open Go.Proofs
theorem tF_set {q i : Nat} (h : i < q) : (0 :: (List.replicate i (2 : Int) ++ List.replicate (q - i) 0)).set (((i : Nat) : Int) + 1).toNat 2 = 0 :: (List.replicate (i + 1) 2 ++ List.replicate (q - (i + 1)) 0) := by
  have e : (((i : Nat) : Int) + 1).toNat = i + 1 := by omega
  rw [e, List.set_cons_succ, List.set_append_right _ _ (by rw [List.length_replicate]; exact Nat.le_refl _), List.length_replicate, Nat.sub_self]
  have e2 : q - i = (q - (i + 1)) + 1 := by omega
  rw [e2, List.replicate_succ, List.set_cons_zero, List.replicate_succ' (n := i), List.append_assoc]
  rfl
theorem tF_len (q i : Nat) (h : i ≤ q) : (0 :: (List.replicate i (2 : Int) ++ List.replicate (q - i) 0)).length = q + 1 := by simp; omega
attribute [local irreducible] WC WL WX WS WO OX Does DoesU Enters CV Pure thenQ blockQ retQ Wants retQC GC GL GS GX RdB thenG blockG retG Rd At gt CVN CVM
set_option maxRecDepth 100000
theorem Not8_cv {w : World} {x : Int} (h : Is3 x) : CVN Tryd.prog 87 [nu x] w fun v N => N = [] ∧ v = nu (tnot x) := by
  unfold Is3 at h
  unfold tnot
  refine CVN.enter 7 [2] Tryd.func87 rfl rfl rfl (by decide) rfl ?_
  by_cases h2 : x = 2
  · rw [if_pos h2]
    repeat' (first
|(apply GC_seqK;intro K hK)
|(apply hK;clear hK K)
|(apply GC_region)
|(apply GL_nil)
|(apply thenG_normal)
|(apply thenG_ret)
|(apply GC_ret)
|(apply GC_if_true;eq_refl)
|(apply retG1;eq_refl)
|(apply GL_on;eq_refl;eq_refl)
|(apply G_pv;eq_refl;first|exact trivial|omega)
|(apply G_cmpT;eq_refl;eq_refl;omega))
    exact ⟨[], (by repeat first | exact Wk.nil | exact Wk.refl | (apply Wk.cons; (focus ((repeat first | exact Rem.here | apply Rem.there | apply Rem.skip); done))) | apply Wk.nilv | apply Wk.last | apply Wk.drop), rfl, rfl⟩
  · rw [if_neg h2]
    repeat' (first
|(apply GC_seqK;intro K hK)
|(apply hK;clear hK K)
|(apply GC_region)
|(apply GL_nil)
|(apply thenG_normal)
|(apply GC_ret)
|(apply GC_skip)
|(apply GC_if_false;eq_refl)
|(apply retG1;eq_refl)
|(apply GL_on;eq_refl;eq_refl)
|(apply G_pv;eq_refl;first|exact trivial|omega)
|(apply G_cmpF;eq_refl;eq_refl;omega))
    exact ⟨[], (by repeat first | exact Wk.nil | exact Wk.refl | (apply Wk.cons; (focus ((repeat first | exact Rem.here | apply Rem.there | apply Rem.skip); done))) | apply Wk.nilv | apply Wk.last | apply Wk.drop), rfl, rfl⟩
theorem And8_cv {w : World} {x y : Int} : CVN Tryd.prog 85 [nu x, nu y] w fun v N => N = [] ∧ v = nu (tand x y) := by
  unfold tand
  refine CVN.enter 17 [4] Tryd.func85 rfl rfl rfl (by decide) rfl ?_
  by_cases h0 : x = 0
  · rw [if_pos (.inl h0)]
    repeat' (first
|(apply GC_seqK;intro K hK)
|(apply hK;clear hK K)
|(apply GC_region)
|(apply GL_nil)
|(apply thenG_normal)
|(apply thenG_ret)
|(apply GC_ret)
|(apply GC_if_true;eq_refl)
|(apply retG1;eq_refl)
|(apply GL_on;eq_refl;eq_refl)
|(apply GL_off;eq_refl;eq_refl)
|(apply G_pv;eq_refl;first|exact trivial|omega)
|(apply G_cmpT;eq_refl;eq_refl;omega))
    exact ⟨[], (by repeat first | exact Wk.nil | exact Wk.refl | (apply Wk.cons; (focus ((repeat first | exact Rem.here | apply Rem.there | apply Rem.skip); done))) | apply Wk.nilv | apply Wk.last | apply Wk.drop), rfl, rfl⟩
  · by_cases h1 : y = 0
    · rw [if_pos (.inr h1)]
      repeat' (first
|(apply GC_seqK;intro K hK)
|(apply hK;clear hK K)
|(apply GC_region)
|(apply GL_nil)
|(apply thenG_normal)
|(apply thenG_ret)
|(apply GC_ret)
|(apply GC_if_true;eq_refl)
|(apply retG1;eq_refl)
|(apply GL_on;eq_refl;eq_refl)
|(apply G_pv;eq_refl;first|exact trivial|omega)
|(apply G_cmpT;eq_refl;eq_refl;omega)
|(apply G_cmpF;eq_refl;eq_refl;omega))
      exact ⟨[], (by repeat first | exact Wk.nil | exact Wk.refl | (apply Wk.cons; (focus ((repeat first | exact Rem.here | apply Rem.there | apply Rem.skip); done))) | apply Wk.nilv | apply Wk.last | apply Wk.drop), rfl, rfl⟩
    · rw [if_neg (by omega)]
      by_cases h2 : x = 1
      · by_cases h3 : y = 1
        · rw [if_pos ⟨h2, h3⟩]
          repeat' (first
|(apply GC_seqK;intro K hK)
|(apply hK;clear hK K)
|(apply GC_region)
|(apply GL_nil)
|(apply thenG_normal)
|(apply thenG_ret)
|(apply GC_ret)
|(apply GC_skip)
|(apply GC_if_true;eq_refl)
|(apply GC_if_false;eq_refl)
|(apply retG1;eq_refl)
|(apply GL_on;eq_refl;eq_refl)
|(apply G_pv;eq_refl;first|exact trivial|omega)
|(apply G_cmpT;eq_refl;eq_refl;omega)
|(apply G_cmpF;eq_refl;eq_refl;omega))
          exact ⟨[], (by repeat first | exact Wk.nil | exact Wk.refl | (apply Wk.cons; (focus ((repeat first | exact Rem.here | apply Rem.there | apply Rem.skip); done))) | apply Wk.nilv | apply Wk.last | apply Wk.drop), rfl, rfl⟩
        · rw [if_neg (by omega)]
          repeat' (first
|(apply GC_seqK;intro K hK)
|(apply hK;clear hK K)
|(apply GC_region)
|(apply GL_nil)
|(apply thenG_normal)
|(apply GC_ret)
|(apply GC_skip)
|(apply GC_if_false;eq_refl)
|(apply retG1;eq_refl)
|(apply GL_on;eq_refl;eq_refl)
|(apply G_pv;eq_refl;first|exact trivial|omega)
|(apply G_cmpT;eq_refl;eq_refl;omega)
|(apply G_cmpF;eq_refl;eq_refl;omega))
          exact ⟨[], (by repeat first | exact Wk.nil | exact Wk.refl | (apply Wk.cons; (focus ((repeat first | exact Rem.here | apply Rem.there | apply Rem.skip); done))) | apply Wk.nilv | apply Wk.last | apply Wk.drop), rfl, rfl⟩
      · rw [if_neg (by omega)]
        repeat' (first
|(apply GC_seqK;intro K hK)
|(apply hK;clear hK K)
|(apply GC_region)
|(apply GL_nil)
|(apply thenG_normal)
|(apply GC_ret)
|(apply GC_skip)
|(apply GC_if_false;eq_refl)
|(apply retG1;eq_refl)
|(apply GL_on;eq_refl;eq_refl)
|(apply GL_off;eq_refl;eq_refl)
|(apply G_pv;eq_refl;first|exact trivial|omega)
|(apply G_cmpF;eq_refl;eq_refl;omega))
        exact ⟨[], (by repeat first | exact Wk.nil | exact Wk.refl | (apply Wk.cons; (focus ((repeat first | exact Rem.here | apply Rem.there | apply Rem.skip); done))) | apply Wk.nilv | apply Wk.last | apply Wk.drop), rfl, rfl⟩
theorem Lit0T_cv {w : World} {A : Option Addr} {k c : Nat} {v : List Int} {l : Int} (hA : RowA w icell 1 A v) (hk : k = v.length) (h3 : Is3 (gt v (l / 2))) (h0 : 0 ≤ l / 2) (h1 : l / 2 < v.length) (hl : v.length ≤ 1000000) : CVN Tryd.prog 62 [.slice A k c, nu l] w fun r N => N = [] ∧ r = nu (tl v l) := by
  have hn : ∀ w', CVN Tryd.prog 87 [nu (gt v (l / 2))] w' _ := fun w' => Not8_cv h3
  unfold tl
  refine CVN.enter 19 [4] Tryd.func62 rfl rfl rfl (by decide) rfl ?_
  by_cases ho : l % 2 = 1
  · rw [if_pos ho]
    repeat' (first
|(apply G_call;eq_refl;eq_refl;(exact fun w' _ => hn w');rintro _ _ ⟨rfl, rfl⟩)
|(apply GC_seqK;intro K hK)
|(apply hK;clear hK K)
|(apply GC_region)
|(apply GL_nil)
|(apply thenG_normal)
|(apply thenG_ret)
|(apply GC_ret)
|(apply GC_if_true;eq_refl)
|(apply retG1;eq_refl)
|(apply GL_on;eq_refl;eq_refl)
|(apply G_pv;eq_refl;first|exact trivial|omega)
|(apply G_rd;eq_refl;(first|(apply Rd.own;(repeat first|exact In.here|apply In.there|apply In.skip);infer_instance)|(apply Rd.old;(repeat first|exact In.here|apply In.there|apply In.skip);assumption)|(apply Rd.oldR;(repeat first|exact In.here|apply In.there|apply In.skip);assumption)|exact Rd.nil|assumption);(case ih => infer_instance);omega;omega;eq_refl)
|(apply G_cmpT;eq_refl;eq_refl;omega)
|(apply G_ix;eq_refl;eq_refl;(first|(apply Rd.own;(repeat first|exact In.here|apply In.there|apply In.skip);infer_instance)|(apply Rd.old;(repeat first|exact In.here|apply In.there|apply In.skip);assumption)|(apply Rd.oldR;(repeat first|exact In.here|apply In.there|apply In.skip);assumption)|exact Rd.nil|assumption);(first|eq_refl|omega);omega;omega))
    exact ⟨[], (by repeat first | exact Wk.nil | exact Wk.refl | (apply Wk.cons; (focus ((repeat first | exact Rem.here | apply Rem.there | apply Rem.skip); done))) | apply Wk.nilv | apply Wk.last | apply Wk.drop), rfl, rfl⟩
  · rw [if_neg ho]
    repeat' (first
|(apply GC_seqK;intro K hK)
|(apply hK;clear hK K)
|(apply GC_region)
|(apply GL_nil)
|(apply thenG_normal)
|(apply GC_ret)
|(apply GC_skip)
|(apply GC_if_false;eq_refl)
|(apply retG1;eq_refl)
|(apply GL_on;eq_refl;eq_refl)
|(apply G_pv;eq_refl;first|exact trivial|omega)
|(apply G_rd;eq_refl;(first|(apply Rd.own;(repeat first|exact In.here|apply In.there|apply In.skip);infer_instance)|(apply Rd.old;(repeat first|exact In.here|apply In.there|apply In.skip);assumption)|(apply Rd.oldR;(repeat first|exact In.here|apply In.there|apply In.skip);assumption)|exact Rd.nil|assumption);(case ih => infer_instance);omega;omega;eq_refl)
|(apply G_cmpF;eq_refl;eq_refl;omega)
|(apply G_ix;eq_refl;eq_refl;(first|(apply Rd.own;(repeat first|exact In.here|apply In.there|apply In.skip);infer_instance)|(apply Rd.old;(repeat first|exact In.here|apply In.there|apply In.skip);assumption)|(apply Rd.oldR;(repeat first|exact In.here|apply In.there|apply In.skip);assumption)|exact Rd.nil|assumption);(first|eq_refl|omega);omega;omega))
    exact ⟨[], (by repeat first | exact Wk.nil | exact Wk.refl | (apply Wk.cons; (focus ((repeat first | exact Rem.here | apply Rem.there | apply Rem.skip); done))) | apply Wk.nilv | apply Wk.last | apply Wk.drop), rfl, rfl⟩
set_option maxHeartbeats 1600000 in
theorem Values0T_cv {w : World} {c : Circ} {h js : Hd} {B S T : Option Addr} {k1 k2 k3 : Nat} {s r : List Int} (R : Right c) (H : CirAt w c h js) (hB : RowA w icell 1 B (ordM c)) (hS : RowA w icell 1 S s) (hT : RowA w icell 1 T r) (hs : s.length = c.latches.length) (hr : r.length = c.inputs.length) (h3 : Row3 s) (h4 : Row3 r) :
    CVN Tryd.prog 59 [.agg (ccells c h).toArray, .slice B (ordM c).length k1, .slice S s.length k2, .slice T r.length k3] w fun v N => ∃ A' k', v = .slice A' (valT c s r).length k' ∧ N = [.vec icell 1 3 A' k' (valT c s r)] := by
  have hLat := H.latches
  have hInp := H.inputs
  have hAnd := H.ands
  have m0 := R.m0
  have m1 := R.m1
  have n1 := R.nIn
  have n2 := R.nLat
  have n3 := R.nAnd
  have n4 := R.ordLen
  obtain ⟨q, hq⟩ : ∃ q : Nat, c.max = (q : Int) := ⟨c.max.toNat, by omega⟩
  have hst0 : List.replicate (c.max + 1).toNat (0 : Int) = 0 :: (List.replicate 0 2 ++ List.replicate (q - 0) 0) := by
    rw [hq, show (((q : Nat) : Int) + 1).toNat = q + 1 by omega]
    rfl
  have hq1 : (c.max + 1).toNat = q + 1 := by omega
  refine CVN.enter 96 [8] Tryd.func59 rfl rfl rfl (by decide) rfl ?_
  repeat' (first
|(apply G_makeI icell;eq_refl;eq_refl;omega;eq_refl;omega;decide;intro b1)
|(apply GC_seqK;intro K hK)
|(apply hK;clear hK K)
|(apply GC_block)
|(apply GC_region)
|(apply GL_nil)
|(apply thenG_normal)
|(apply GL_on;eq_refl;eq_refl)
|(apply G_pv;eq_refl;first|exact trivial|omega)
|(apply G_field;eq_refl)
|(apply G_ld;eq_refl;(repeat first|exact In.here|apply In.there|apply In.skip);eq_refl)
|(apply G_box;eq_refl;eq_refl;intro _))
  rename_i b0
  rw [hst0]
  refine GC_loopK [1, 2, 3, 4, 9] (fun i : Nat => [(10, nu ((i : Int) + 1))]) (fun i => [.vec icell 1 3 (some ⟨b1, 0, none⟩) (c.max + 1).toNat (0 :: (List.replicate i 2 ++ List.replicate (q - i) 0)), .box b0 29 (ccells c h), .old w none_]) (fun i => i ≤ q) (fun i => q - i) 0 (by repeat first | exact Pick.nil | (apply Pick.cons; eq_refl)) (by repeat first | exact trivial | refine ⟨rfl, ?_⟩) (by repeat first | exact Wk.nil | exact Wk.refl | (apply Wk.cons; (focus ((repeat first | exact Rem.here | apply Rem.there | apply Rem.skip); done))) | apply Wk.nilv | apply Wk.last | apply Wk.drop) (Nat.zero_le _) ?_
  intro i hi
  rcases Nat.lt_or_ge i q with hlt | hge
  · have e := tF_set hlt
    have hln := tF_len q i hi
    generalize (0 :: (List.replicate i (2 : Int) ++ List.replicate (q - i) 0)) = l0 at *
    repeat' (first
|(apply GC_seqK;intro K hK)
|(apply hK;clear hK K)
|(apply GC_block)
|(apply GC_region)
|(apply GL_nil)
|(apply thenG_normal)
|(apply blockG_normal)
|(apply GC_skip)
|(apply GC_if_true;eq_refl)
|(apply GL_on;eq_refl;eq_refl)
|(apply G_pv;eq_refl;first|exact trivial|omega)
|(apply G_field;eq_refl)
|(apply G_ld;eq_refl;(repeat first|exact In.here|apply In.there|apply In.skip);eq_refl)
|(apply G_cmpT;eq_refl;eq_refl;omega)
|(apply G_ix;eq_refl;eq_refl;(first|(apply Rd.own;(repeat first|exact In.here|apply In.there|apply In.skip);infer_instance)|(apply Rd.old;(repeat first|exact In.here|apply In.there|apply In.skip);assumption)|(apply Rd.oldR;(repeat first|exact In.here|apply In.there|apply In.skip);assumption)|exact Rd.nil|assumption);(first|eq_refl|omega);omega;omega)
|(apply G_stV;(first|exact wr_p|kernel_rfl);eq_refl;eq_refl;eq_refl;eq_refl;(repeat first|exact Upd.here|apply Upd.there|apply Upd.skip);infer_instance;infer_instance;eq_refl;omega;(try simp only [List.length_set, List.length_append, List.length_replicate]);omega))
    rw [e]
    exact ⟨i + 1, (by repeat first | exact trivial | refine ⟨rfl, ?_⟩), (by repeat first | exact Wk.nil | exact Wk.refl | (apply Wk.cons; (focus ((repeat first | exact Rem.here | apply Rem.there | apply Rem.skip); done))) | apply Wk.nilv | apply Wk.last | apply Wk.drop), hlt, by omega⟩
  · obtain rfl : i = q := by omega
    have hbase : (0 :: (List.replicate i (2 : Int) ++ List.replicate (i - i) 0)) = tB c := by
      unfold tB
      rw [Nat.sub_self, List.replicate_zero, List.append_nil, hq, Int.toNat_natCast]
    rw [hbase]
    repeat' (first
|(apply GC_seqK;intro K hK)
|(apply hK;clear hK K)
|(clear hK K;apply hK;clear hK K)
|(apply GC_block)
|(apply GC_region)
|(apply GL_nil)
|(apply thenG_normal)
|(apply thenG_exit)
|(apply blockG_hit)
|(apply GC_exit)
|(apply GC_if_false;eq_refl)
|(apply GL_on;eq_refl;eq_refl)
|(apply G_pv;eq_refl;first|exact trivial|omega)
|(apply G_field;eq_refl)
|(apply G_ld;eq_refl;(repeat first|exact In.here|apply In.there|apply In.skip);eq_refl)
|(apply G_cmpF;eq_refl;eq_refl;omega))
    refine GC_loopK [1, 2, 3, 4, 9] (fun s : Nat × List Int => [(11, nu s.1)]) (fun s => [.vec icell 1 3 (some ⟨b1, 0, none⟩) (c.max + 1).toNat s.2, .box b0 29 (ccells c h), .old w none_]) (fun s => s.1 ≤ c.inputs.length ∧ s.2 = tIn c r s.1) (fun s => c.inputs.length - s.1) (0, _) (by repeat first | exact Pick.nil | (apply Pick.cons; eq_refl)) (by repeat first | exact trivial | refine ⟨rfl, ?_⟩) (by repeat first | exact Wk.nil | exact Wk.refl | (apply Wk.cons; (focus ((repeat first | exact Rem.here | apply Rem.there | apply Rem.skip); done))) | apply Wk.nilv | apply Wk.last | apply Wk.drop) ⟨Nat.zero_le _, rfl⟩ ?_
    rintro ⟨i, v⟩ ⟨hi, hv⟩
    dsimp only at hi hv ⊢
    have hlen : v.length = (c.max + 1).toNat := by rw [hv, tIn_len m0]
    rcases Nat.lt_or_ge i c.inputs.length with hlt | hge
    · have hd := R.inp (gt_mem (l := c.inputs) (i := (i : Int)) (by omega) (by omega))
      have hst := tIn_succ c r i
      rw [← hv] at hst
      unfold defR at hd
      repeat' (first
|(apply GC_seqK;intro K hK)
|(apply hK;clear hK K)
|(apply GC_block)
|(apply GC_region)
|(apply GL_nil)
|(apply thenG_normal)
|(apply blockG_normal)
|(apply GC_skip)
|(apply GC_if_true;eq_refl)
|(apply GL_on;eq_refl;eq_refl)
|(refine GC_draws (id := 9) [.q 0, .q 1, .q 2, .q 3, .q 4, .q 5, .q 6, .q 7, .q 8, .q 9, .q 10, .q 11, .c 12] mixed (by kernel_rfl) (by kernel_rfl) ?_)
|(apply GS_nil)
|(apply GS_qon;eq_refl;eq_refl;eq_refl;eq_refl)
|(apply GS_con;eq_refl;eq_refl;eq_refl;eq_refl)
|(apply G_pv;eq_refl;first|exact trivial|omega)
|(apply G_field;eq_refl)
|(apply G_ld;eq_refl;(repeat first|exact In.here|apply In.there|apply In.skip);eq_refl)
|(apply G_rd;eq_refl;(first|(apply Rd.own;(repeat first|exact In.here|apply In.there|apply In.skip);infer_instance)|(apply Rd.old;(repeat first|exact In.here|apply In.there|apply In.skip);assumption)|(apply Rd.oldR;(repeat first|exact In.here|apply In.there|apply In.skip);assumption)|exact Rd.nil|assumption);(case ih => infer_instance);omega;omega;eq_refl)
|(apply G_cmpT;eq_refl;eq_refl;omega)
|(apply G_len;eq_refl)
|(apply G_ix;eq_refl;eq_refl;(first|(apply Rd.own;(repeat first|exact In.here|apply In.there|apply In.skip);infer_instance)|(apply Rd.old;(repeat first|exact In.here|apply In.there|apply In.skip);assumption)|(apply Rd.oldR;(repeat first|exact In.here|apply In.there|apply In.skip);assumption)|exact Rd.nil|assumption);(first|eq_refl|omega);omega;omega)
|(apply G_stV;(first|exact wr_p|kernel_rfl);eq_refl;eq_refl;eq_refl;eq_refl;(repeat first|exact Upd.here|apply Upd.there|apply Upd.skip);infer_instance;infer_instance;eq_refl;omega;(try simp only [List.length_set, List.length_append, List.length_replicate]);omega))
      exact ⟨(i + 1, _), (by repeat first | exact trivial | refine ⟨rfl, ?_⟩), (by repeat first | exact Wk.nil | exact Wk.refl | (apply Wk.cons; (focus ((repeat first | exact Rem.here | apply Rem.there | apply Rem.skip); done))) | apply Wk.nilv | apply Wk.last | apply Wk.drop), ⟨hlt, hst.symm⟩, by simp only; omega⟩
    · obtain rfl : i = c.inputs.length := by omega
      have hvr : Row3 v := by rw [hv]; exact tIn_row h4 _ (by omega)
      repeat' (first
|(apply GC_seqK;intro K hK)
|(apply hK;clear hK K)
|(clear hK K;apply hK;clear hK K)
|(apply GC_block)
|(apply GC_region)
|(apply GL_nil)
|(apply thenG_normal)
|(apply thenG_exit)
|(apply blockG_hit)
|(apply GC_exit)
|(apply GC_if_false;eq_refl)
|(apply GL_on;eq_refl;eq_refl)
|(apply G_pv;eq_refl;first|exact trivial|omega)
|(apply G_field;eq_refl)
|(apply G_ld;eq_refl;(repeat first|exact In.here|apply In.there|apply In.skip);eq_refl)
|(apply G_cmpF;eq_refl;eq_refl;omega)
|(apply G_len;eq_refl))
      refine GC_loopK [1, 2, 3, 4, 9] (fun s : Nat × List Int => [(12, nu s.1)]) (fun s => [.vec icell 1 3 (some ⟨b1, 0, none⟩) (c.max + 1).toNat s.2, .box b0 29 (ccells c h), .old w none_]) (fun t => t.1 ≤ c.latches.length ∧ t.2 = tLt c s v t.1) (fun s => c.latches.length - s.1) (0, _) (by repeat first | exact Pick.nil | (apply Pick.cons; eq_refl)) (by repeat first | exact trivial | refine ⟨rfl, ?_⟩) (by repeat first | exact Wk.nil | exact Wk.refl | (apply Wk.cons; (focus ((repeat first | exact Rem.here | apply Rem.there | apply Rem.skip); done))) | apply Wk.nilv | apply Wk.last | apply Wk.drop) ⟨Nat.zero_le _, rfl⟩ ?_
      rintro ⟨i, v2⟩ ⟨hi2, hv2⟩
      dsimp only at hi2 hv2 ⊢
      have hlen2 : v2.length = (c.max + 1).toNat := by rw [hv2, tLt_len, hlen]
      rcases Nat.lt_or_ge i c.latches.length with hlt | hge
      · have hd := (R.lat (gt_mem (l := c.latches) (i := (i : Int)) (by omega) (by omega))).1
        have hst := tLt_succ c s v i
        rw [← hv2] at hst
        unfold defR at hd
        repeat' (first
|(apply GC_seqK;intro K hK)
|(apply hK;clear hK K)
|(apply GC_block)
|(apply GC_region)
|(apply GL_nil)
|(apply thenG_normal)
|(apply blockG_normal)
|(apply GC_skip)
|(apply GC_if_true;eq_refl)
|(apply GL_on;eq_refl;eq_refl)
|(refine GC_draws (id := 13) [.q 0, .q 1, .q 2, .q 3, .q 4, .q 5, .q 6, .q 7, .q 8, .q 9, .q 10, .q 11, .q 12, .c 13] mixed (by kernel_rfl) (by kernel_rfl) ?_)
|(apply GS_nil)
|(apply GS_qon;eq_refl;eq_refl;eq_refl;eq_refl)
|(apply GS_con;eq_refl;eq_refl;eq_refl;eq_refl)
|(apply G_pv;eq_refl;first|exact trivial|omega)
|(apply G_field;eq_refl)
|(apply G_fieldP;eq_refl)
|(apply G_ld;eq_refl;(repeat first|exact In.here|apply In.there|apply In.skip);eq_refl)
|(apply G_rd;eq_refl;(first|(apply Rd.own;(repeat first|exact In.here|apply In.there|apply In.skip);infer_instance)|(apply Rd.old;(repeat first|exact In.here|apply In.there|apply In.skip);assumption)|(apply Rd.oldR;(repeat first|exact In.here|apply In.there|apply In.skip);assumption)|exact Rd.nil|assumption);(case ih => infer_instance);omega;omega;eq_refl)
|(apply G_cmpT;eq_refl;eq_refl;omega)
|(apply G_len;eq_refl)
|(apply G_ix;eq_refl;eq_refl;(first|(apply Rd.own;(repeat first|exact In.here|apply In.there|apply In.skip);infer_instance)|(apply Rd.old;(repeat first|exact In.here|apply In.there|apply In.skip);assumption)|(apply Rd.oldR;(repeat first|exact In.here|apply In.there|apply In.skip);assumption)|exact Rd.nil|assumption);(first|eq_refl|omega);omega;omega)
|(apply G_stV;(first|exact wr_p|kernel_rfl);eq_refl;eq_refl;eq_refl;eq_refl;(repeat first|exact Upd.here|apply Upd.there|apply Upd.skip);infer_instance;infer_instance;eq_refl;omega;(try simp only [List.length_set, List.length_append, List.length_replicate]);omega))
        exact ⟨(i + 1, _), (by repeat first | exact trivial | refine ⟨rfl, ?_⟩), (by repeat first | exact Wk.nil | exact Wk.refl | (apply Wk.cons; (focus ((repeat first | exact Rem.here | apply Rem.there | apply Rem.skip); done))) | apply Wk.nilv | apply Wk.last | apply Wk.drop), ⟨hlt, hst.symm⟩, by simp only; omega⟩
      · obtain rfl : i = c.latches.length := by omega
        have hvr2 : Row3 v2 := by rw [hv2]; exact tLt_row h3 hvr _ (by omega)
        repeat' (first
|(apply GC_seqK;intro K hK)
|(apply hK;clear hK K)
|(clear hK K;apply hK;clear hK K)
|(apply GC_block)
|(apply GC_region)
|(apply GL_nil)
|(apply thenG_normal)
|(apply thenG_exit)
|(apply blockG_hit)
|(apply GC_exit)
|(apply GC_if_false;eq_refl)
|(apply GL_on;eq_refl;eq_refl)
|(apply G_pv;eq_refl;first|exact trivial|omega)
|(apply G_field;eq_refl)
|(apply G_ld;eq_refl;(repeat first|exact In.here|apply In.there|apply In.skip);eq_refl)
|(apply G_cmpF;eq_refl;eq_refl;omega)
|(apply G_len;eq_refl))
        refine GC_loopK [1, 2, 3, 4, 9] (fun s : Nat × List Int => [(13, nu s.1)]) (fun s => [.vec icell 1 3 (some ⟨b1, 0, none⟩) (c.max + 1).toNat s.2, .box b0 29 (ccells c h), .old w none_]) (fun t => t.1 ≤ (ordM c).length ∧ t.2 = tAn c (ordM c) v2 t.1) (fun s => (ordM c).length - s.1) (0, _) (by repeat first | exact Pick.nil | (apply Pick.cons; eq_refl)) (by repeat first | exact trivial | refine ⟨rfl, ?_⟩) (by repeat first | exact Wk.nil | exact Wk.refl | (apply Wk.cons; (focus ((repeat first | exact Rem.here | apply Rem.there | apply Rem.skip); done))) | apply Wk.nilv | apply Wk.last | apply Wk.drop) ⟨Nat.zero_le _, rfl⟩ ?_
        rintro ⟨i, v3⟩ ⟨hi3, hv3⟩
        dsimp only at hi3 hv3 ⊢
        have hlen3 : v3.length = (c.max + 1).toNat := by rw [hv3, tAn_len, hlen2]
        have hvr3 : Row3 v3 := by rw [hv3]; exact tAn_row hvr2 _
        rcases Nat.lt_or_ge i (ordM c).length with hlt | hge
        · have ho := R.ord (gt_mem (l := ordM c) (i := (i : Int)) (by omega) (by omega))
          have hst := tAn_succ c (ordM c) v2 i
          rw [← hv3] at hst
          obtain ⟨hd, hl1, hl2⟩ := R.gate (gt_mem (l := c.ands) ho.1 ho.2)
          have u1 := hl1.hasI hlen3
          have u2 := hl2.hasI hlen3
          unfold defR at hd
          have hof : ∀ Γ, In Γ (.vec icell 1 3 (some ⟨b1, 0, none⟩) (c.max + 1).toNat v3) → ∀ l : Int, 0 ≤ l / 2 → l / 2 < v3.length → ∀ w', Mem w' Γ → CVN Tryd.prog 62 [.slice (some ⟨b1, 0, none⟩) (c.max + 1).toNat (c.max + 1).toNat, nu l] w' fun r N => N = [] ∧ r = nu (tl v3 l) := fun Γ hv l g0 g1 w' M => Lit0T_cv (hv.row M) (by omega) (hvr3.gt g0 g1) g0 g1 (by omega)
          have ho1 := fun Γ hv w' M => hof Γ hv _ u1.1 u1.2 w' M
          have ho2 := fun Γ hv w' M => hof Γ hv _ u2.1 u2.2 w' M
          generalize tl v3 (gt c.ands (gt (ordM c) (i : Int))).2.1 = x at *
          generalize tl v3 (gt c.ands (gt (ordM c) (i : Int))).2.2 = y at *
          have han : ∀ w', CVN Tryd.prog 85 [nu x, nu y] w' _ := fun w' => And8_cv
          repeat' (first
|(apply G_call;eq_refl;eq_refl;(apply ho1;(repeat first|exact In.here|apply In.there|apply In.skip));rintro _ _ ⟨rfl, rfl⟩)
|(apply G_call;eq_refl;eq_refl;(apply ho2;(repeat first|exact In.here|apply In.there|apply In.skip));rintro _ _ ⟨rfl, rfl⟩)
|(apply G_call;eq_refl;eq_refl;(exact fun w' _ => han w');rintro _ _ ⟨rfl, rfl⟩)
|(apply GC_seqK;intro K hK)
|(apply hK;clear hK K)
|(apply GC_block)
|(apply GC_region)
|(apply GL_nil)
|(apply thenG_normal)
|(apply blockG_normal)
|(apply GC_skip)
|(apply GC_if_true;eq_refl)
|(apply GL_on;eq_refl;eq_refl)
|(refine GC_draws (id := 17) [.q 0, .q 1, .q 2, .q 3, .q 4, .q 5, .q 6, .q 7, .c 8, .c 9] mixed (by kernel_rfl) (by kernel_rfl) ?_)
|(refine GC_draws (id := 18) [.q 0, .q 1, .q 2, .q 3, .q 4, .q 5, .q 6, .q 8, .q 9, .q 10, .c 7, .c 11, .c 12, .q 13, .c 14] mixed (by kernel_rfl) (by kernel_rfl) ?_)
|(apply GS_nil)
|(apply GS_qon;eq_refl;eq_refl;eq_refl;eq_refl)
|(apply GS_con;eq_refl;eq_refl;eq_refl;eq_refl)
|(apply G_pv;eq_refl;first|exact trivial|omega)
|(apply G_field;eq_refl)
|(apply G_ld;eq_refl;(repeat first|exact In.here|apply In.there|apply In.skip);eq_refl)
|(apply G_rd;eq_refl;(first|(apply Rd.own;(repeat first|exact In.here|apply In.there|apply In.skip);infer_instance)|(apply Rd.old;(repeat first|exact In.here|apply In.there|apply In.skip);assumption)|(apply Rd.oldR;(repeat first|exact In.here|apply In.there|apply In.skip);assumption)|exact Rd.nil|assumption);(case ih => infer_instance);omega;omega;eq_refl)
|(apply G_rdW;eq_refl;(first|(apply Rd.own;(repeat first|exact In.here|apply In.there|apply In.skip);infer_instance)|(apply Rd.old;(repeat first|exact In.here|apply In.there|apply In.skip);assumption)|(apply Rd.oldR;(repeat first|exact In.here|apply In.there|apply In.skip);assumption)|exact Rd.nil|assumption);infer_instance;(case ih => infer_instance);omega;omega)
|(apply G_cmpT;eq_refl;eq_refl;omega)
|(apply G_len;eq_refl)
|(apply G_ix;eq_refl;eq_refl;(first|(apply Rd.own;(repeat first|exact In.here|apply In.there|apply In.skip);infer_instance)|(apply Rd.old;(repeat first|exact In.here|apply In.there|apply In.skip);assumption)|(apply Rd.oldR;(repeat first|exact In.here|apply In.there|apply In.skip);assumption)|exact Rd.nil|assumption);(first|eq_refl|omega);omega;omega)
|(apply G_alloc;eq_refl;intro _)
|(apply G_stV;(first|exact wr_p|kernel_rfl);eq_refl;eq_refl;eq_refl;eq_refl;(repeat first|exact Upd.here|apply Upd.there|apply Upd.skip);infer_instance;infer_instance;eq_refl;omega;(try simp only [List.length_set, List.length_append, List.length_replicate]);omega)
|(apply G_stW;(first|exact wr_p|kernel_rfl);eq_refl;eq_refl;eq_refl;eq_refl;(repeat first|exact Upd.here|apply Upd.there|apply Upd.skip);eq_refl))
          exact ⟨(i + 1, _), (by repeat first | exact trivial | refine ⟨rfl, ?_⟩), (by repeat first | exact Wk.nil | exact Wk.refl | (apply Wk.cons; (focus ((repeat first | exact Rem.here | apply Rem.there | apply Rem.skip); done))) | apply Wk.nilv | apply Wk.last | apply Wk.drop), ⟨hlt, hst.symm⟩, by simp only; omega⟩
        · obtain rfl : i = (ordM c).length := by omega
          repeat' (first
|(apply GC_seqK;intro K hK)
|(apply hK;clear hK K)
|(clear hK K;apply hK;clear hK K)
|(apply GC_region)
|(apply GL_nil)
|(apply thenG_normal)
|(apply thenG_exit)
|(apply blockG_hit)
|(apply GC_ret)
|(apply GC_exit)
|(apply GC_if_false;eq_refl)
|(apply retG1;eq_refl)
|(apply GL_on;eq_refl;eq_refl)
|(apply G_pv;eq_refl;first|exact trivial|omega)
|(apply G_cmpF;eq_refl;eq_refl;omega)
|(apply G_len;eq_refl))
          subst hv3 hv2 hv
          have e9 := valT_len m0 s r
          exact ⟨[.vec icell 1 3 (some ⟨b1, 0, none⟩) (c.max + 1).toNat (valT c s r)], (by repeat first | exact Wk.nil | exact Wk.refl | (apply Wk.cons; (focus ((repeat first | exact Rem.here | apply Rem.there | apply Rem.skip); done))) | apply Wk.nilv | apply Wk.last | apply Wk.drop), some ⟨b1, 0, none⟩, (c.max + 1).toNat, by rw [e9], rfl⟩
theorem row8_cv {w : World} {A : Option Addr} {k : Nat} {l : List Int} {q : Nat} (hA : RowA w icell 1 A l) (hl : l.length ≤ 9223372036854775807) : CVN Tryd.prog 58 [.slice A l.length k, nu q] w fun v N => N = [] ∧ v = .bool (rowB l q) := by
  refine CVN.enter 27 [4] Tryd.func58 rfl rfl rfl (by decide) rfl ?_
  by_cases hq : l.length = q
  · subst hq
    repeat' (first
|(apply GC_seqK;intro K hK)
|(apply hK;clear hK K)
|(apply GC_block)
|(apply GC_region)
|(apply GL_nil)
|(apply thenG_normal)
|(apply GC_skip)
|(apply GC_if_false;eq_refl)
|(apply GL_on;eq_refl;eq_refl)
|(apply G_pv;eq_refl;first|exact trivial|omega)
|(apply G_cmpF;eq_refl;eq_refl;omega)
|(apply G_len;eq_refl))
    refine GC_loopK [0, 1] (fun i : Nat => [(5, nu i)]) (fun _ => [.old w none_]) (fun i => i ≤ l.length ∧ ((l.take i).all fun x => decide (0 ≤ x) && decide (x ≤ 2)) = true) (fun i => l.length - i) 0 (by repeat first | exact Pick.nil | (apply Pick.cons; eq_refl)) (by repeat first | exact trivial | refine ⟨rfl, ?_⟩) (by repeat first | exact Wk.nil | exact Wk.refl | (apply Wk.cons; (focus ((repeat first | exact Rem.here | apply Rem.there | apply Rem.skip); done))) | apply Wk.nilv | apply Wk.last | apply Wk.drop) ⟨Nat.zero_le _, by simp⟩ ?_
    rintro i ⟨hi, hall⟩
    rcases Nat.lt_or_ge i l.length with hlt | hge
    · have e1 := List.take_succ_eq_append_getElem hlt
      rw [← gt_nat hlt] at e1
      have g1 := gt_mem (l := l) (i := (i : Int)) (by omega) (by omega)
      by_cases h0 : 0 ≤ gt l (i : Int) ∧ gt l (i : Int) ≤ 2
      · repeat' (first
|(apply GC_seqK;intro K hK)
|(apply hK;clear hK K)
|(apply GC_block)
|(apply GC_region)
|(apply GL_nil)
|(apply thenG_normal)
|(apply blockG_normal)
|(apply GC_skip)
|(apply GC_if_true;eq_refl)
|(apply GC_if_false;eq_refl)
|(apply GL_on;eq_refl;eq_refl)
|(apply G_pv;eq_refl;first|exact trivial|omega)
|(apply G_rd;eq_refl;(first|(apply Rd.own;(repeat first|exact In.here|apply In.there|apply In.skip);infer_instance)|(apply Rd.old;(repeat first|exact In.here|apply In.there|apply In.skip);assumption)|(apply Rd.oldR;(repeat first|exact In.here|apply In.there|apply In.skip);assumption)|exact Rd.nil|assumption);(case ih => infer_instance);omega;omega;eq_refl)
|(apply G_cmpT;eq_refl;eq_refl;omega)
|(apply G_cmpF;eq_refl;eq_refl;omega)
|(apply G_ix;eq_refl;eq_refl;(first|(apply Rd.own;(repeat first|exact In.here|apply In.there|apply In.skip);infer_instance)|(apply Rd.old;(repeat first|exact In.here|apply In.there|apply In.skip);assumption)|(apply Rd.oldR;(repeat first|exact In.here|apply In.there|apply In.skip);assumption)|exact Rd.nil|assumption);(first|eq_refl|omega);omega;omega))
        exact ⟨i + 1, (by repeat first | exact trivial | refine ⟨rfl, ?_⟩), (by repeat first | exact Wk.nil | exact Wk.refl | (apply Wk.cons; (focus ((repeat first | exact Rem.here | apply Rem.there | apply Rem.skip); done))) | apply Wk.nilv | apply Wk.last | apply Wk.drop), ⟨hlt, by rw [e1, List.all_append, hall]; simp [h0.1, h0.2]⟩, by omega⟩
      · have hf : rowB l l.length = false := by
          cases hb : rowB l l.length
          · rfl
          · exact absurd ((rowB_iff.1 hb).2 _ g1) h0
        by_cases h1 : gt l (i : Int) < 0
        · repeat' (first
|(apply GC_seqK;intro K hK)
|(apply hK;clear hK K)
|(apply GC_block)
|(apply GC_region)
|(apply GL_nil)
|(apply thenG_normal)
|(apply thenG_ret)
|(apply blockG_ret)
|(apply GC_ret)
|(apply GC_skip)
|(apply GC_if_true;eq_refl)
|(apply retG1;eq_refl)
|(apply GL_on;eq_refl;eq_refl)
|(apply GL_off;eq_refl;eq_refl)
|(apply G_pv;eq_refl;first|exact trivial|omega)
|(apply G_rd;eq_refl;(first|(apply Rd.own;(repeat first|exact In.here|apply In.there|apply In.skip);infer_instance)|(apply Rd.old;(repeat first|exact In.here|apply In.there|apply In.skip);assumption)|(apply Rd.oldR;(repeat first|exact In.here|apply In.there|apply In.skip);assumption)|exact Rd.nil|assumption);(case ih => infer_instance);omega;omega;eq_refl)
|(apply G_cmpT;eq_refl;eq_refl;omega)
|(apply G_ix;eq_refl;eq_refl;(first|(apply Rd.own;(repeat first|exact In.here|apply In.there|apply In.skip);infer_instance)|(apply Rd.old;(repeat first|exact In.here|apply In.there|apply In.skip);assumption)|(apply Rd.oldR;(repeat first|exact In.here|apply In.there|apply In.skip);assumption)|exact Rd.nil|assumption);(first|eq_refl|omega);omega;omega))
          exact ⟨[], (by repeat first | exact Wk.nil | exact Wk.refl | (apply Wk.cons; (focus ((repeat first | exact Rem.here | apply Rem.there | apply Rem.skip); done))) | apply Wk.nilv | apply Wk.last | apply Wk.drop), rfl, by rw [hf]⟩
        · repeat' (first
|(apply GC_seqK;intro K hK)
|(apply hK;clear hK K)
|(apply GC_block)
|(apply GC_region)
|(apply GL_nil)
|(apply thenG_normal)
|(apply thenG_ret)
|(apply blockG_ret)
|(apply GC_ret)
|(apply GC_skip)
|(apply GC_if_true;eq_refl)
|(apply retG1;eq_refl)
|(apply GL_on;eq_refl;eq_refl)
|(apply G_pv;eq_refl;first|exact trivial|omega)
|(apply G_rd;eq_refl;(first|(apply Rd.own;(repeat first|exact In.here|apply In.there|apply In.skip);infer_instance)|(apply Rd.old;(repeat first|exact In.here|apply In.there|apply In.skip);assumption)|(apply Rd.oldR;(repeat first|exact In.here|apply In.there|apply In.skip);assumption)|exact Rd.nil|assumption);(case ih => infer_instance);omega;omega;eq_refl)
|(apply G_cmpT;eq_refl;eq_refl;omega)
|(apply G_cmpF;eq_refl;eq_refl;omega)
|(apply G_ix;eq_refl;eq_refl;(first|(apply Rd.own;(repeat first|exact In.here|apply In.there|apply In.skip);infer_instance)|(apply Rd.old;(repeat first|exact In.here|apply In.there|apply In.skip);assumption)|(apply Rd.oldR;(repeat first|exact In.here|apply In.there|apply In.skip);assumption)|exact Rd.nil|assumption);(first|eq_refl|omega);omega;omega))
          exact ⟨[], (by repeat first | exact Wk.nil | exact Wk.refl | (apply Wk.cons; (focus ((repeat first | exact Rem.here | apply Rem.there | apply Rem.skip); done))) | apply Wk.nilv | apply Wk.last | apply Wk.drop), rfl, by rw [hf]⟩
    · rw [List.take_of_length_le hge] at hall
      repeat' (first
|(apply GC_seqK;intro K hK)
|(apply hK;clear hK K)
|(clear hK K;apply hK;clear hK K)
|(apply GC_region)
|(apply GL_nil)
|(apply thenG_normal)
|(apply thenG_exit)
|(apply blockG_hit)
|(apply GC_ret)
|(apply GC_exit)
|(apply GC_if_false;eq_refl)
|(apply retG1;eq_refl)
|(apply GL_on;eq_refl;eq_refl)
|(apply G_pv;eq_refl;first|exact trivial|omega)
|(apply G_cmpF;eq_refl;eq_refl;omega))
      exact ⟨[], (by repeat first | exact Wk.nil | exact Wk.refl | (apply Wk.cons; (focus ((repeat first | exact Rem.here | apply Rem.there | apply Rem.skip); done))) | apply Wk.nilv | apply Wk.last | apply Wk.drop), rfl, by unfold rowB; rw [hall, decide_eq_true rfl]; rfl⟩
  · repeat' (first
|(apply GC_seqK;intro K hK)
|(apply hK;clear hK K)
|(apply GC_region)
|(apply GL_nil)
|(apply thenG_normal)
|(apply thenG_ret)
|(apply GC_ret)
|(apply GC_if_true;eq_refl)
|(apply retG1;eq_refl)
|(apply GL_on;eq_refl;eq_refl)
|(apply G_pv;eq_refl;first|exact trivial|omega)
|(apply G_cmpT;eq_refl;eq_refl;omega)
|(apply G_len;eq_refl))
    exact ⟨[], (by repeat first | exact Wk.nil | exact Wk.refl | (apply Wk.cons; (focus ((repeat first | exact Rem.here | apply Rem.there | apply Rem.skip); done))) | apply Wk.nilv | apply Wk.last | apply Wk.drop), rfl, by unfold rowB; rw [decide_eq_false hq]; rfl⟩
end SC
end Go.Proofs.YtclihihdgodloaaDoor
end
