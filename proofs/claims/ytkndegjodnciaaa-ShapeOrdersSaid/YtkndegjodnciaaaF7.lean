/- shape: look, Check, Order: the walks. -/
import Derived.Test.YtkndegjodnciaaaF6
import Derived.Test.YtkndegjodnciaaaE5
set_option linter.unusedVariables false
set_option linter.unusedSimpArgs false
namespace Go.Proofs.Ytkndegjodnciaaa
namespace SC
open Go.Proofs
set_option maxRecDepth 100000
theorem CycOf.only {n : Nat} {B : Int → List Int} {r r' : Int} (h : CycOf n B r) (h' : CycOf n B r') : r = r' := by
  obtain ⟨out, ha, h⟩ := h
  obtain ⟨out', ha', h'⟩ := h'
  obtain rfl := ha.only ha'
  rcases h with ⟨h1, h2⟩ | ⟨h1, h2, h3, h4⟩
  · rcases h' with ⟨g1, g2⟩ | ⟨g1, g2, g3, g4⟩
    · omega
    · omega
  · rcases h' with ⟨g1, g2⟩ | ⟨g1, g2, g3, g4⟩
    · omega
    · rcases Int.lt_trichotomy r r' with hl | hl | hl
      · exact absurd h3 (g4 r h2 hl)
      · exact hl
      · exact absurd g3 (h4 r' g2 hl)
open Classical in
noncomputable def cycM (n : Nat) (B : Int → List Int) : Int := if h : ∃ r, CycOf n B r then h.choose else 0
theorem cycM_eq {n : Nat} {B : Int → List Int} {r : Int} (h : CycOf n B r) : cycM n B = r := by
  have hh : ∃ r, CycOf n B r := ⟨r, h⟩
  unfold cycM
  rw [dif_pos hh]
  exact hh.choose_spec.only h
def bytesI (s : ByteArray) : List Int := s.data.toList.map fun b => (b.toNat : Int)
theorem bytesI_len (s : ByteArray) : (bytesI s).length = s.size := by unfold bytesI ByteArray.size; rw [List.length_map, Array.length_toList]
def goCom : List ByteArray → Nat → Int
  | [], _ => -1
  | s :: r, i => if (10 : Int) ∈ bytesI s then (i : Int) else goCom r (i + 1)
theorem goCom_step {ls : List ByteArray} {k : Nat} (hk : k < ls.length) : goCom (ls.drop k) k = if (10 : Int) ∈ bytesI ls[k] then (k : Int) else goCom (ls.drop (k + 1)) (k + 1) := by
  rw [List.drop_eq_getElem_cons hk]
  rfl
def tabM (c : Circ) : Tab := (definesM c (T0 c)).2
noncomputable def lookM (c : Circ) : Int × Int :=
  if sizesM c ≠ 0 then (0, sizesM c)
  else if (definesM c (T0 c)).1.2 ≠ 0 then (definesM c (T0 c)).1
  else if (usesM c (tabM c)).2 ≠ 0 then usesM c (tabM c)
  else if 0 ≤ cycM c.ands.length (gateB (tabM c) c) then (cycM c.ands.length (gateB (tabM c) c), 34)
  else if 0 ≤ goSym c c.symbols 0 (fun _ _ => 0) then (goSym c c.symbols 0 (fun _ _ => 0), 35)
  else if 0 ≤ goCom c.comments 0 then (goCom c.comments 0, 36)
  else (0, 0)
theorem sizesM_ok {c : Circ} (h : sizesM c = 0) : 0 ≤ c.max ∧ c.max ≤ 16384 ∧ (∀ n ∈ c.lens, n ≤ 16384) ∧ sumW c.justice ≤ 16384 := by
  unfold sizesM at h
  split at h
  · cases h
  · split at h
    · cases h
    · rename_i h1 h2
      refine ⟨by omega, by omega, fun n hn => ?_, ?_⟩
      · exact Int.not_lt.1 fun hh => h2 (.inl ⟨n, hn, hh⟩)
      · exact Int.not_lt.1 fun hh => h2 (.inr hh)
theorem lookM_ok {c : Circ} (h : (lookM c).2 = 0) : lookM c = (0, 0) ∧ sizesM c = 0 ∧ (definesM c (T0 c)).1.2 = 0 ∧ (usesM c (tabM c)).2 = 0 ∧ cycM c.ands.length (gateB (tabM c) c) < 0 ∧ goSym c c.symbols 0 (fun _ _ => 0) < 0 ∧ goCom c.comments 0 < 0 := by
  unfold lookM at h ⊢
  split at h
  · rename_i hh; exact absurd h hh
  · rename_i h1
    rw [if_neg h1]
    split at h
    · rename_i hh; exact absurd h hh
    · rename_i h2
      rw [if_neg h2]
      split at h
      · rename_i hh; exact absurd h hh
      · rename_i h3
        rw [if_neg h3]
        split at h
        · simp at h
        · rename_i h4
          rw [if_neg h4]
          split at h
          · simp at h
          · rename_i h5
            rw [if_neg h5]
            split at h
            · simp at h
            · rename_i h6
              rw [if_neg h6]
              exact ⟨rfl, Classical.byContradiction h1, Classical.byContradiction h2, Classical.byContradiction h3, by omega, by omega, by omega⟩
theorem made_two (m : Nat) : (madeCells #[nu 0, nu 0] (m * 2)).toList = (List.replicate m ((0 : Int), (0 : Int))).flatMap mcells := by
  have e : ∀ m : Nat, (List.replicate m ((0 : Int), (0 : Int))).flatMap mcells = List.replicate (m * 2) (nu 0) := by
    intro m
    induction m with
    | zero => rfl
    | succ m ih =>
      rw [List.replicate_succ, List.flatMap_cons, ih]
      rw [show (m + 1) * 2 = m * 2 + 1 + 1 by omega, List.replicate_succ, List.replicate_succ]
      rfl
  rw [e]
  apply List.ext_getElem?
  intro j
  simp only [madeCells]
  by_cases hj : j < m * 2
  · have h2 : j % 2 = 0 ∨ j % 2 = 1 := by omega
    rcases h2 with h2 | h2 <;> simp [hj, h2]
  · simp [hj]
theorem T0_len {c : Circ} (h : 0 ≤ c.max) : ((T0 c).length : Int) = c.max + 1 := by unfold T0; rw [List.length_replicate]; omega
section
variable {n : Nat} {all rest : List Oper} {K : Env → World → Prop} {e : Env} {w : World} {d : Option Tmp} {ty : TypeId} {P : Program} {x y : Operand} {t t0 : TypeId} {td : TypeDesc} {sz sz1 by_ by1 : Nat} {zv z1 v : Value} {ag ag1 : Bool} {S : World → Prop} {r : List (Nat × Bool)} {i : Nat}
theorem O_make {m : Nat} {k : IntKind} [U : Ty P t (.slice t0) sz1 z1 by1 ag1] [T : Ty P t0 td sz zv by_ ag] (h : ev e x = some (.int k (m : Int))) (hn : (by_ : Int) * m ≤ 281474976710656) (h63 : (m : Int) ≤ 9223372036854775807)
    (hS : loose .any all.toArray i = false → S (w.alloc (.cells (madeCells zv.cells (m * sz)) t0)))
    (hr : WS P n all S K r (push d (.slice (some ⟨w.heap.size, 0, none⟩) m m) e) (w.alloc (.cells (madeCells zv.cells (m * sz)) t0))) : OX P n all S K i false r d (.makeSlice t x x) ty e w := O_does (does_makeSlice U.und T h hn h63) hS hr
theorem O_box (k : Nat) (hk : w.heap.size = k) (h : ev e x = some v) (hS : loose .any all.toArray i = false → S (w.alloc (.cells v.cells t))) (hr : WS P n all S K r (push d (.pointer (some ⟨k, 0, none⟩)) e) (w.alloc (.cells v.cells t))) : OX P n all S K i false r d (.box t x) ty e w := by subst hk; exact O_does (does_box h) hS hr
theorem X_toBytes {s : ByteArray} {sz2 by2 : Nat} {z2 : Value} {ag2 : Bool} {t2 : TypeId} [U : Ty P t .string sz z1 by_ ag] [V : Ty P t0 (.slice t2) sz1 zv by1 ag1] [W : Ty P t2 (.int .u8) sz2 z2 by2 ag2] (h : ev e x = some (.string s))
    (hr : ∀ w' cp, Chg w w' none_ → RowA w' ucell 1 (some ⟨w.heap.size, 0, none⟩) (bytesI s) → WL P n all K rest (push d (.slice (some ⟨w.heap.size, 0, none⟩) (bytesI s).length cp) e) w') : WX P n all K rest d (.convert t t0 x) ty e w := by
  have hrun := run_bytes_of_string (P := P) w t t0 t2 s U.und V.und W.und
  have hd : ∀ W', (convert t t0 (.string s)).run P w = .ok (.slice (some ⟨w.heap.size, 0, none⟩) s.size (grownCap w s.size 0 t2)) W' → Does P (.convert t t0 x) ty e w (.slice (some ⟨w.heap.size, 0, none⟩) (bytesI s).length (grownCap w s.size 0 t2)) W' := fun W' hW ρ dst pos af g hρ => by
    simp [execOp, hρ _ _ h, hW, bytesI_len]
  have hcell : ∀ k (hk : k < s.data.size), (bytesRow s (grownCap w s.size 0 t2))[k]? = some (.int .u8 (s.data[k].toNat : Int)) := fun k hk => by
    unfold bytesRow
    rw [Array.getElem?_append_left (by simpa using hk), Array.getElem?_map, Array.getElem?_eq_getElem hk]
    rfl
  generalize bytesRow s (grownCap w s.size 0 t2) = C at *
  refine X_does (hd _ hrun) (hr _ (grownCap w s.size 0 t2) ?_ ?_)
  · exact (Chg.drew w none_).al _
  · intro k hk
    refine ⟨_, rfl, fun j u hj => ?_⟩
    have hks : k < s.data.size := by rwa [bytesI_len] at hk
    have hj0 : j = 0 := by
      have := (List.getElem?_eq_some_iff.1 hj).1
      simpa [ucell] using this
    subst hj0
    simp only [ucell, List.getElem?_cons_zero, Option.some.injEq] at hj
    subst hj
    have e : ((k : Int).toNat * 1) = k := by omega
    rw [e, add_at, add_at, Nat.zero_add, show k + 0 = k from rfl, cell_of_row _ w.heap.size k C t2 _ (heap_alloc_new w.drew _), hcell k hks]
    simp [bytesI]
end
attribute [local irreducible] WC WL WX WS WO OX Does DoesU Enters CV Pure thenQ blockQ retQ Wants
/-- What look leaves. -/
def Looked (c : Circ) (h js : Hd) (w : World) (v : Value) (w' : World) : Prop :=
  Chg w w' none_ ∧ (((lookM c).2 ≠ 0 ∧ v = .tuple #[.pointer none, nu (lookM c).1, nu (lookM c).2]) ∨ (∃ q b, (lookM c).2 = 0 ∧ v = .tuple #[pt q, nu 0, nu 0] ∧ Lk w' q b c h js (tabM c) ∧ LkOk c (tabM c) ∧ ∃ out, All c.ands.length (gateB (tabM c) c) out ∧ out.length = c.ands.length))
theorem look_cv {w : World} {c : Circ} {h js : Hd} (H : CirAt w c h js) (hs : c.Sane) : CV Try.prog 75 [.agg (ccells c h).toArray] w (Looked c h js w) := by
  have hN : Blk (w.alloc (.cells (ccells c h).toArray 51)) w.heap.size 51 (ccells c h) := Blk.new w _ _
  have hC := Chg.alloc w (.cells (ccells c h).toArray 51) none_
  have H0 := H.chg hC
  have hszc := sizes_cv H0 hs
  refine enter 69 [2, 3, 4] Try.func75 rfl rfl rfl (by decide) rfl ?_
  repeat' (first
      | (apply X_fn; eq_refl; exact hszc; rintro _ w1 ⟨rfl, hC1⟩)
      | (apply WC_seqK; intro K hK)
      | (apply hK; clear hK)
      | (clear hK; apply hK; clear hK)
      | (clear hK; clear hK; apply hK; clear hK)
      | (clear hK; clear hK; clear hK; apply hK; clear hK)
      | (apply WC_block)
      | (apply WC_region)
      | (apply WL_nil)
      | (apply thenQ_normal)
      | (apply thenQ_ret)
      | (apply thenQ_exit)
      | (apply blockQ_hit)
      | (apply blockQ_miss; eq_refl)
      | (apply blockQ_ret)
      | (apply blockQ_normal)
      | (apply WC_ret)
      | (apply WC_exit)
      | (apply WC_skip)
      | (apply WC_if_true; eq_refl)
      | (apply WC_if_false; eq_refl)
      | (apply ret1; eq_refl)
      | (apply ret2; eq_refl; eq_refl)
      | (apply ret3; eq_refl; eq_refl; eq_refl)
      | (apply ret0)
      | (apply ret0n)
      | (apply WL_on0; eq_refl)
      | (apply X_pv; eq_refl; first | exact trivial | omega)
      | (apply X_field; eq_refl)
      | (apply X_loadR; eq_refl; (first | assumption | (apply Blk.alloc; assumption) | apply Blk.new | apply Blk.newA | (apply Blk.alloc; first | apply Blk.newA | (apply Blk.alloc; first | assumption | apply Blk.newA))); eq_refl)
      | (apply X_loadW; eq_refl; (first | assumption | (apply Blk.alloc; assumption) | apply Blk.new | apply Blk.newA | (apply Blk.alloc; first | apply Blk.newA | (apply Blk.alloc; first | assumption | apply Blk.newA))); eq_refl)
      | (apply X_loadC; eq_refl; (first | assumption | (apply cel; first | assumption | (apply cel; assumption))))
      | (apply X_cmpT; eq_refl; eq_refl; omega)
      | (apply X_cmpF; eq_refl; eq_refl; omega)
      | (apply X_cmp; eq_refl; eq_refl; all_goals intro _)
      | (apply X_len; eq_refl)
      | (apply X_lenS; eq_refl)
      | (apply X_index; eq_refl; eq_refl; omega; omega)
      | (apply X_indexP; eq_refl; eq_refl; omega; omega)
      | (apply X_fieldP; eq_refl)
      | (apply X_neqB; eq_refl; eq_refl)
      | (apply X_box; eq_refl)
      | (apply X_pure; apply build150_0_1 <;> eq_refl))
  · exact ⟨hC.trans hC1 fun _ _ h => h, .inl (by unfold lookM; rw [if_pos (by assumption)]; exact ⟨by assumption, rfl⟩)⟩
  have hsz : sizesM c = 0 := by omega
  obtain ⟨hm0, hm1, hln, hsum⟩ := sizesM_ok hsz
  have hC1' : Chg w w1 none_ := hC.trans hC1 fun _ _ h => h
  have hN1 := hN.chg hC1 id
  obtain ⟨m, hm⟩ : ∃ m : Nat, c.max + 1 = m := ⟨(c.max + 1).toNat, by omega⟩
  refine WC_draws [(0, true), (1, true), (2, true), (3, true), (4, false), (5, true), (6, false), (7, true)] (fun W => Blk W w.heap.size 51 (ccells c h)) mixed (by kernel_rfl) (by kernel_rfl) ?_
  have hS : Blk w1.drew w.heap.size 51 (ccells c h) := hN1
  repeat' (first
      | (apply WC_seqK; intro K hK)
      | (apply hK; clear hK)
      | (clear hK; apply hK; clear hK)
      | (clear hK; clear hK; apply hK; clear hK)
      | (clear hK; clear hK; clear hK; apply hK; clear hK)
      | (apply WC_block)
      | (apply WC_region)
      | (apply WL_nil)
      | (apply thenQ_normal)
      | (apply thenQ_ret)
      | (apply thenQ_exit)
      | (apply blockQ_hit)
      | (apply blockQ_miss; eq_refl)
      | (apply blockQ_ret)
      | (apply blockQ_normal)
      | (apply WC_ret)
      | (apply WC_exit)
      | (apply WC_skip)
      | (apply WC_if_true; eq_refl)
      | (apply WC_if_false; eq_refl)
      | (apply ret1; eq_refl)
      | (apply ret2; eq_refl; eq_refl)
      | (apply ret3; eq_refl; eq_refl; eq_refl)
      | (apply ret0)
      | (apply ret0n)
      | (apply WS_nil)
      | (apply WS_next; eq_refl)
      | (apply WO_on0; eq_refl)
      | (apply O_pv; eq_refl; (first | exact trivial | omega); (first | assumption | exact trivial))
      | (apply O_field; eq_refl; (first | assumption | exact trivial))
      | (apply O_loadR; eq_refl; (first | (intro _ h; exact h) | (intro _ h; exact h.1) | (intro _ h; exact h.2) | (intro _ h; exact h.2.1) | (intro _ h; exact h.2.2) | (intro _ h; exact h.2.2.1) | (intro _ h; exact h.2.2.2)); eq_refl; (first | assumption | exact trivial))
      | (apply O_loadW; eq_refl; (first | (intro _ h; exact h) | (intro _ h; exact h.1) | (intro _ h; exact h.2) | (intro _ h; exact h.2.1) | (intro _ h; exact h.2.2) | (intro _ h; exact h.2.2.1) | (intro _ h; exact h.2.2.2)); eq_refl; (first | assumption | exact trivial))
      | (apply O_loadC; eq_refl; (first | (intro _ h; exact h) | (intro _ h; exact h.1) | (intro _ h; exact h.2) | (intro _ h; exact h.2.1) | (intro _ h; exact h.2.2) | (intro _ h; exact h.2.2.1) | (intro _ h; exact h.2.2.2)); (first | assumption | exact trivial))
      | (apply O_cmpT; eq_refl; eq_refl; omega; (first | assumption | exact trivial))
      | (apply O_cmpF; eq_refl; eq_refl; omega; (first | assumption | exact trivial))
      | (apply O_cmp; eq_refl; eq_refl; (first | assumption | exact trivial); all_goals intro _)
      | (apply O_len; eq_refl; (first | assumption | exact trivial))
      | (apply O_lenS; eq_refl; (first | assumption | exact trivial))
      | (apply O_index; eq_refl; eq_refl; omega; omega; (first | assumption | exact trivial))
      | (apply O_indexP; eq_refl; eq_refl; omega; omega; (first | assumption | exact trivial))
      | (apply O_fieldP; eq_refl; (first | assumption | exact trivial))
      | (apply O_neqB; eq_refl; eq_refl; (first | assumption | exact trivial))
      | (apply O_pvL; eq_refl; (first | exact trivial | omega); (first | (intro _; assumption) | exact lo (by kernel_rfl)))
      | (apply O_pure; apply build150_0_1 <;> eq_refl; (first | assumption | exact trivial))
      | (apply WL_on0; eq_refl)
      | (apply X_pv; eq_refl; first | exact trivial | omega)
      | (apply X_field; eq_refl)
      | (apply X_loadR; eq_refl; (first | assumption | (apply Blk.alloc; assumption) | apply Blk.new | apply Blk.newA | (apply Blk.alloc; first | apply Blk.newA | (apply Blk.alloc; first | assumption | apply Blk.newA))); eq_refl)
      | (apply X_loadW; eq_refl; (first | assumption | (apply Blk.alloc; assumption) | apply Blk.new | apply Blk.newA | (apply Blk.alloc; first | apply Blk.newA | (apply Blk.alloc; first | assumption | apply Blk.newA))); eq_refl)
      | (apply X_loadC; eq_refl; (first | assumption | (apply cel; first | assumption | (apply cel; assumption))))
      | (apply X_cmpT; eq_refl; eq_refl; omega)
      | (apply X_cmpF; eq_refl; eq_refl; omega)
      | (apply X_cmp; eq_refl; eq_refl; all_goals intro _)
      | (apply X_len; eq_refl)
      | (apply X_lenS; eq_refl)
      | (apply X_index; eq_refl; eq_refl; omega; omega)
      | (apply X_indexP; eq_refl; eq_refl; omega; omega)
      | (apply X_fieldP; eq_refl)
      | (apply X_neqB; eq_refl; eq_refl)
      | (apply X_box; eq_refl)
      | (apply X_pure; apply build150_0_1 <;> eq_refl))
  rw [hm]
  have hS2 : ∀ o, Blk (w1.drew.alloc o) w.heap.size 51 (ccells c h) := fun o => hS.alloc o
  have hS3 : ∀ o o', Blk ((w1.drew.alloc o).alloc o') w.heap.size 51 (ccells c h) := fun o o' => (hS.alloc o).alloc o'
  repeat' (first
      | (apply O_make; eq_refl; omega; omega; intro _; exact hS2 _)
      | (apply O_box (w1.heap.size + 1); (simp); eq_refl; intro _; exact hS3 _ _)
      | (apply O_pure; apply build150_0_1 <;> eq_refl; exact hS2 _)
      | (apply O_pv; eq_refl; exact trivial; exact hS3 _ _)
      | (apply WC_seqK; intro K hK)
      | (apply hK; clear hK)
      | (clear hK; apply hK; clear hK)
      | (clear hK; clear hK; apply hK; clear hK)
      | (clear hK; clear hK; clear hK; apply hK; clear hK)
      | (apply WC_block)
      | (apply WC_region)
      | (apply WL_nil)
      | (apply thenQ_normal)
      | (apply thenQ_ret)
      | (apply thenQ_exit)
      | (apply blockQ_hit)
      | (apply blockQ_miss; eq_refl)
      | (apply blockQ_ret)
      | (apply blockQ_normal)
      | (apply WC_ret)
      | (apply WC_exit)
      | (apply WC_skip)
      | (apply WC_if_true; eq_refl)
      | (apply WC_if_false; eq_refl)
      | (apply ret1; eq_refl)
      | (apply ret2; eq_refl; eq_refl)
      | (apply ret3; eq_refl; eq_refl; eq_refl)
      | (apply ret0)
      | (apply ret0n)
      | (apply WS_nil)
      | (apply WS_next; eq_refl)
      | (apply WO_on0; eq_refl)
      | (apply O_pv; eq_refl; (first | exact trivial | omega); (first | assumption | exact trivial))
      | (apply O_field; eq_refl; (first | assumption | exact trivial))
      | (apply O_loadR; eq_refl; (first | (intro _ h; exact h) | (intro _ h; exact h.1) | (intro _ h; exact h.2) | (intro _ h; exact h.2.1) | (intro _ h; exact h.2.2) | (intro _ h; exact h.2.2.1) | (intro _ h; exact h.2.2.2)); eq_refl; (first | assumption | exact trivial))
      | (apply O_loadW; eq_refl; (first | (intro _ h; exact h) | (intro _ h; exact h.1) | (intro _ h; exact h.2) | (intro _ h; exact h.2.1) | (intro _ h; exact h.2.2) | (intro _ h; exact h.2.2.1) | (intro _ h; exact h.2.2.2)); eq_refl; (first | assumption | exact trivial))
      | (apply O_loadC; eq_refl; (first | (intro _ h; exact h) | (intro _ h; exact h.1) | (intro _ h; exact h.2) | (intro _ h; exact h.2.1) | (intro _ h; exact h.2.2) | (intro _ h; exact h.2.2.1) | (intro _ h; exact h.2.2.2)); (first | assumption | exact trivial))
      | (apply O_cmpT; eq_refl; eq_refl; omega; (first | assumption | exact trivial))
      | (apply O_cmpF; eq_refl; eq_refl; omega; (first | assumption | exact trivial))
      | (apply O_cmp; eq_refl; eq_refl; (first | assumption | exact trivial); all_goals intro _)
      | (apply O_len; eq_refl; (first | assumption | exact trivial))
      | (apply O_lenS; eq_refl; (first | assumption | exact trivial))
      | (apply O_index; eq_refl; eq_refl; omega; omega; (first | assumption | exact trivial))
      | (apply O_indexP; eq_refl; eq_refl; omega; omega; (first | assumption | exact trivial))
      | (apply O_fieldP; eq_refl; (first | assumption | exact trivial))
      | (apply O_neqB; eq_refl; eq_refl; (first | assumption | exact trivial))
      | (apply O_pvL; eq_refl; (first | exact trivial | omega); (first | (intro _; assumption) | exact lo (by kernel_rfl)))
      | (apply O_pure; apply build150_0_1 <;> eq_refl; (first | assumption | exact trivial))
      | (apply WL_on0; eq_refl)
      | (apply X_pv; eq_refl; first | exact trivial | omega)
      | (apply X_field; eq_refl)
      | (apply X_loadR; eq_refl; (first | assumption | (apply Blk.alloc; assumption) | apply Blk.new | apply Blk.newA | (apply Blk.alloc; first | apply Blk.newA | (apply Blk.alloc; first | assumption | apply Blk.newA))); eq_refl)
      | (apply X_loadW; eq_refl; (first | assumption | (apply Blk.alloc; assumption) | apply Blk.new | apply Blk.newA | (apply Blk.alloc; first | apply Blk.newA | (apply Blk.alloc; first | assumption | apply Blk.newA))); eq_refl)
      | (apply X_loadC; eq_refl; (first | assumption | (apply cel; first | assumption | (apply cel; assumption))))
      | (apply X_cmpT; eq_refl; eq_refl; omega)
      | (apply X_cmpF; eq_refl; eq_refl; omega)
      | (apply X_cmp; eq_refl; eq_refl; all_goals intro _)
      | (apply X_len; eq_refl)
      | (apply X_lenS; eq_refl)
      | (apply X_index; eq_refl; eq_refl; omega; omega)
      | (apply X_indexP; eq_refl; eq_refl; omega; omega)
      | (apply X_fieldP; eq_refl)
      | (apply X_neqB; eq_refl; eq_refl)
      | (apply X_box; eq_refl)
      | (apply X_pure; apply build150_0_1 <;> eq_refl))
  have hl0 := T0_len hm0
  have hTl : (T0 c).length = m := by omega
  have hT0 : T0 c = List.replicate m (0, 0) := by unfold T0; rw [show (c.max + 1).toNat = m by omega]
  have hwz : w1.drew.heap.size = w1.heap.size := rfl
  have hLk : Lk ((w1.drew.alloc (.cells (madeCells (Value.agg #[nu 0, nu 0]).cells (m * 2)) 173)).alloc (.cells (ccells c h ++ [Value.slice (some ⟨w1.heap.size, 0, none⟩) m m]).toArray 150)) (w1.heap.size + 1) w1.heap.size c h js (T0 c) := by
    have es : (w1.drew.alloc (.cells (madeCells (Value.agg #[nu 0, nu 0]).cells (m * 2)) 173)).heap.size = w1.heap.size + 1 := by simp
    refine ⟨?_, ?_, fun w2 h2 => ?_⟩
    · rw [hTl]
      have := Blk.new (w1.drew.alloc (.cells (madeCells (Value.agg #[nu 0, nu 0]).cells (m * 2)) 173)) (ccells c h ++ [Value.slice (some ⟨w1.heap.size, 0, none⟩) m m]) 150
      rwa [es] at this
    · have := Blk.newA w1.drew (madeCells (Value.agg #[nu 0, nu 0]).cells (m * 2)) 173
      rw [show (Value.agg #[nu 0, nu 0]).cells = #[nu 0, nu 0] from rfl, made_two, ← hT0] at this
      exact this.alloc _
    · refine H.chg ((((hC1'.dr.al _).al _).trans h2 fun k hk hh => ?_))
      have := hC1'.size
      omega
  have hLO : LkOk c (T0 c) := ⟨hl0, hm0, hm1⟩
  have hC2 : Chg w ((w1.drew.alloc (.cells (madeCells (Value.agg #[nu 0, nu 0]).cells (m * 2)) 173)).alloc (.cells (ccells c h ++ [Value.slice (some ⟨w1.heap.size, 0, none⟩) m m]).toArray 150)) none_ := (hC1'.dr.al _).al _
  have hN2 := hS3 (.cells (madeCells (Value.agg #[nu 0, nu 0]).cells (m * 2)) 173) (.cells (ccells c h ++ [Value.slice (some ⟨w1.heap.size, 0, none⟩) m m]).toArray 150)
  refine WX_turn (fun w2 => Lk w2 (w1.heap.size + 1) w1.heap.size c h js (T0 c) ∧ Chg w w2 none_ ∧ Blk w2 w.heap.size 51 (ccells c h) ∧ w1.heap.size < w2.heap.size) ⟨hLk, hC2, hN2, by simp; omega⟩ ?_
  rintro w2 ⟨hLk2, hC2, hN2, hz2⟩
  clear hLk hS2 hS3
  have hdf := defines_cv hLk2 hLO hs
  have hC1z := hC1'.size
  repeat' (first
      | (apply X_fn; eq_refl; exact hdf; rintro _ w3 ⟨rfl, hLk3, hLO3, hC3⟩)
      | (apply WC_seqK; intro K hK)
      | (apply hK; clear hK)
      | (clear hK; apply hK; clear hK)
      | (clear hK; clear hK; apply hK; clear hK)
      | (clear hK; clear hK; clear hK; apply hK; clear hK)
      | (apply WC_block)
      | (apply WC_region)
      | (apply WL_nil)
      | (apply thenQ_normal)
      | (apply thenQ_ret)
      | (apply thenQ_exit)
      | (apply blockQ_hit)
      | (apply blockQ_miss; eq_refl)
      | (apply blockQ_ret)
      | (apply blockQ_normal)
      | (apply WC_ret)
      | (apply WC_exit)
      | (apply WC_skip)
      | (apply WC_if_true; eq_refl)
      | (apply WC_if_false; eq_refl)
      | (apply ret1; eq_refl)
      | (apply ret2; eq_refl; eq_refl)
      | (apply ret3; eq_refl; eq_refl; eq_refl)
      | (apply ret0)
      | (apply ret0n)
      | (apply WL_on0; eq_refl)
      | (apply X_pv; eq_refl; first | exact trivial | omega)
      | (apply X_field; eq_refl)
      | (apply X_loadR; eq_refl; (first | assumption | (apply Blk.alloc; assumption) | apply Blk.new | apply Blk.newA | (apply Blk.alloc; first | apply Blk.newA | (apply Blk.alloc; first | assumption | apply Blk.newA))); eq_refl)
      | (apply X_loadW; eq_refl; (first | assumption | (apply Blk.alloc; assumption) | apply Blk.new | apply Blk.newA | (apply Blk.alloc; first | apply Blk.newA | (apply Blk.alloc; first | assumption | apply Blk.newA))); eq_refl)
      | (apply X_loadC; eq_refl; (first | assumption | (apply cel; first | assumption | (apply cel; assumption))))
      | (apply X_cmpT; eq_refl; eq_refl; omega)
      | (apply X_cmpF; eq_refl; eq_refl; omega)
      | (apply X_cmp; eq_refl; eq_refl; all_goals intro _)
      | (apply X_len; eq_refl)
      | (apply X_lenS; eq_refl)
      | (apply X_index; eq_refl; eq_refl; omega; omega)
      | (apply X_indexP; eq_refl; eq_refl; omega; omega)
      | (apply X_fieldP; eq_refl)
      | (apply X_neqB; eq_refl; eq_refl)
      | (apply X_box; eq_refl)
      | (apply X_pure; apply build150_0_1 <;> eq_refl))
  · have hd : (definesM c (T0 c)).1.2 ≠ 0 := by assumption
    have e : lookM c = (definesM c (T0 c)).1 := by unfold lookM; rw [if_neg (fun hh => hh hsz), if_pos hd]
    exact ⟨hC2.trans hC3 fun k hk hh => by unfold tabOf at hh; omega, .inl (by rw [e]; exact ⟨hd, rfl⟩)⟩
  have hd : (definesM c (T0 c)).1.2 = 0 := by omega
  have hC3' : Chg w w3 none_ := hC2.trans hC3 fun k hk hh => by unfold tabOf at hh; omega
  have hN3 : Blk w3 w.heap.size 51 (ccells c h) := hN2.chg hC3 fun hh => by
    unfold tabOf at hh
    have := hN1.lt
    have := hC.size
    have e1 := hLk2.tab
    have e2 := hN2
    rw [hh] at e2
    unfold Blk at e1 e2
    rw [e1] at e2
    simp at e2
  have hTO := definesM_spec hm0 hd
  have hus := uses_cv hLk3 hLO3 hs
  rw [show (definesM c (T0 c)).2 = tabM c from rfl] at hLk3 hLO3 hTO hus
  repeat' (first
      | (apply X_fn; eq_refl; exact hus; rintro _ w4 ⟨rfl, hC4⟩)
      | (apply WC_seqK; intro K hK)
      | (apply hK; clear hK)
      | (clear hK; apply hK; clear hK)
      | (clear hK; clear hK; apply hK; clear hK)
      | (clear hK; clear hK; clear hK; apply hK; clear hK)
      | (apply WC_block)
      | (apply WC_region)
      | (apply WL_nil)
      | (apply thenQ_normal)
      | (apply thenQ_ret)
      | (apply thenQ_exit)
      | (apply blockQ_hit)
      | (apply blockQ_miss; eq_refl)
      | (apply blockQ_ret)
      | (apply blockQ_normal)
      | (apply WC_ret)
      | (apply WC_exit)
      | (apply WC_skip)
      | (apply WC_if_true; eq_refl)
      | (apply WC_if_false; eq_refl)
      | (apply ret1; eq_refl)
      | (apply ret2; eq_refl; eq_refl)
      | (apply ret3; eq_refl; eq_refl; eq_refl)
      | (apply ret0)
      | (apply ret0n)
      | (apply WL_on0; eq_refl)
      | (apply X_pv; eq_refl; first | exact trivial | omega)
      | (apply X_field; eq_refl)
      | (apply X_loadR; eq_refl; (first | assumption | (apply Blk.alloc; assumption) | apply Blk.new | apply Blk.newA | (apply Blk.alloc; first | apply Blk.newA | (apply Blk.alloc; first | assumption | apply Blk.newA))); eq_refl)
      | (apply X_loadW; eq_refl; (first | assumption | (apply Blk.alloc; assumption) | apply Blk.new | apply Blk.newA | (apply Blk.alloc; first | apply Blk.newA | (apply Blk.alloc; first | assumption | apply Blk.newA))); eq_refl)
      | (apply X_loadC; eq_refl; (first | assumption | (apply cel; first | assumption | (apply cel; assumption))))
      | (apply X_cmpT; eq_refl; eq_refl; omega)
      | (apply X_cmpF; eq_refl; eq_refl; omega)
      | (apply X_cmp; eq_refl; eq_refl; all_goals intro _)
      | (apply X_len; eq_refl)
      | (apply X_lenS; eq_refl)
      | (apply X_index; eq_refl; eq_refl; omega; omega)
      | (apply X_indexP; eq_refl; eq_refl; omega; omega)
      | (apply X_fieldP; eq_refl)
      | (apply X_neqB; eq_refl; eq_refl)
      | (apply X_box; eq_refl)
      | (apply X_pure; apply build150_0_1 <;> eq_refl))
  · have hu : (usesM c (tabM c)).2 ≠ 0 := by assumption
    have e : lookM c = usesM c (tabM c) := by unfold lookM; rw [if_neg (fun hh => hh hsz), if_neg (fun hh => hh hd), if_pos hu]
    exact ⟨hC3'.trans hC4 fun _ _ h => h, .inl (by rw [e]; exact ⟨hu, rfl⟩)⟩
  have hu : (usesM c (tabM c)).2 = 0 := by omega
  have hUA := usesM_spec.1 hu
  have hn : c.ands.length ≤ 16384 := by have := hln (c.ands.length : Int) (by simp [Circ.lens]); omega
  have hC4' : Chg w w4 none_ := hC3'.trans hC4 fun _ _ h => h
  have hcy := cycle_cv (hLk3.chg hC4) hLO3 hn (fun x hx => ⟨(hUA.ands x hx).1.1, (hUA.ands x hx).1.2.1, (hUA.ands x hx).2.1, (hUA.ands x hx).2.2.1⟩) (hTO.below hUA)
  repeat' (first
      | (apply X_fn; eq_refl; exact hcy; rintro _ w5 ⟨r, rfl, hcr, hC5⟩)
      | (apply WC_seqK; intro K hK)
      | (apply hK; clear hK)
      | (clear hK; apply hK; clear hK)
      | (clear hK; clear hK; apply hK; clear hK)
      | (clear hK; clear hK; clear hK; apply hK; clear hK)
      | (apply WC_block)
      | (apply WC_region)
      | (apply WL_nil)
      | (apply thenQ_normal)
      | (apply thenQ_ret)
      | (apply thenQ_exit)
      | (apply blockQ_hit)
      | (apply blockQ_miss; eq_refl)
      | (apply blockQ_ret)
      | (apply blockQ_normal)
      | (apply WC_ret)
      | (apply WC_exit)
      | (apply WC_skip)
      | (apply WC_if_true; eq_refl)
      | (apply WC_if_false; eq_refl)
      | (apply ret1; eq_refl)
      | (apply ret2; eq_refl; eq_refl)
      | (apply ret3; eq_refl; eq_refl; eq_refl)
      | (apply ret0)
      | (apply ret0n)
      | (apply WL_on0; eq_refl)
      | (apply X_pv; eq_refl; first | exact trivial | omega)
      | (apply X_field; eq_refl)
      | (apply X_loadR; eq_refl; (first | assumption | (apply Blk.alloc; assumption) | apply Blk.new | apply Blk.newA | (apply Blk.alloc; first | apply Blk.newA | (apply Blk.alloc; first | assumption | apply Blk.newA))); eq_refl)
      | (apply X_loadW; eq_refl; (first | assumption | (apply Blk.alloc; assumption) | apply Blk.new | apply Blk.newA | (apply Blk.alloc; first | apply Blk.newA | (apply Blk.alloc; first | assumption | apply Blk.newA))); eq_refl)
      | (apply X_loadC; eq_refl; (first | assumption | (apply cel; first | assumption | (apply cel; assumption))))
      | (apply X_cmpT; eq_refl; eq_refl; omega)
      | (apply X_cmpF; eq_refl; eq_refl; omega)
      | (apply X_cmp; eq_refl; eq_refl; all_goals intro _)
      | (apply X_len; eq_refl)
      | (apply X_lenS; eq_refl)
      | (apply X_index; eq_refl; eq_refl; omega; omega)
      | (apply X_indexP; eq_refl; eq_refl; omega; omega)
      | (apply X_fieldP; eq_refl)
      | (apply X_neqB; eq_refl; eq_refl)
      | (apply X_box; eq_refl)
      | (apply X_pure; apply build150_0_1 <;> eq_refl))
  · have hc := cycM_eq hcr
    have e : lookM c = (r, 34) := by unfold lookM; rw [if_neg (fun hh => hh hsz), if_neg (fun hh => hh hd), if_neg (fun hh => hh hu), hc, if_pos (by assumption)]
    exact ⟨hC4'.trans hC5 fun _ _ h => h, .inl (by rw [e]; exact ⟨by simp, rfl⟩)⟩
  have hc := cycM_eq hcr
  have hr0 : ¬ 0 ≤ r := by omega
  have hC5' : Chg w w5 none_ := hC4'.trans hC5 fun _ _ h => h
  have hN5 := (hN3.chg hC4 id).chg hC5 id
  have hsy := symbols_cv (H.chg hC5') hs
  repeat' (first
      | (apply X_fn; eq_refl; exact hsy; rintro _ w6 ⟨rfl, hC6⟩)
      | (apply WC_seqK; intro K hK)
      | (apply hK; clear hK)
      | (clear hK; apply hK; clear hK)
      | (clear hK; clear hK; apply hK; clear hK)
      | (clear hK; clear hK; clear hK; apply hK; clear hK)
      | (apply WC_block)
      | (apply WC_region)
      | (apply WL_nil)
      | (apply thenQ_normal)
      | (apply thenQ_ret)
      | (apply thenQ_exit)
      | (apply blockQ_hit)
      | (apply blockQ_miss; eq_refl)
      | (apply blockQ_ret)
      | (apply blockQ_normal)
      | (apply WC_ret)
      | (apply WC_exit)
      | (apply WC_skip)
      | (apply WC_if_true; eq_refl)
      | (apply WC_if_false; eq_refl)
      | (apply ret1; eq_refl)
      | (apply ret2; eq_refl; eq_refl)
      | (apply ret3; eq_refl; eq_refl; eq_refl)
      | (apply ret0)
      | (apply ret0n)
      | (apply WL_on0; eq_refl)
      | (apply X_pv; eq_refl; first | exact trivial | omega)
      | (apply X_field; eq_refl)
      | (apply X_loadR; eq_refl; (first | assumption | (apply Blk.alloc; assumption) | apply Blk.new | apply Blk.newA | (apply Blk.alloc; first | apply Blk.newA | (apply Blk.alloc; first | assumption | apply Blk.newA))); eq_refl)
      | (apply X_loadW; eq_refl; (first | assumption | (apply Blk.alloc; assumption) | apply Blk.new | apply Blk.newA | (apply Blk.alloc; first | apply Blk.newA | (apply Blk.alloc; first | assumption | apply Blk.newA))); eq_refl)
      | (apply X_loadC; eq_refl; (first | assumption | (apply cel; first | assumption | (apply cel; assumption))))
      | (apply X_cmpT; eq_refl; eq_refl; omega)
      | (apply X_cmpF; eq_refl; eq_refl; omega)
      | (apply X_cmp; eq_refl; eq_refl; all_goals intro _)
      | (apply X_len; eq_refl)
      | (apply X_lenS; eq_refl)
      | (apply X_index; eq_refl; eq_refl; omega; omega)
      | (apply X_indexP; eq_refl; eq_refl; omega; omega)
      | (apply X_fieldP; eq_refl)
      | (apply X_neqB; eq_refl; eq_refl)
      | (apply X_box; eq_refl)
      | (apply X_pure; apply build150_0_1 <;> eq_refl))
  · have e : lookM c = (goSym c c.symbols 0 fun _ _ => 0, 35) := by unfold lookM; rw [if_neg (fun hh => hh hsz), if_neg (fun hh => hh hd), if_neg (fun hh => hh hu), hc, if_neg hr0, if_pos (by assumption)]
    exact ⟨hC5'.trans hC6 fun _ _ h => h, .inl (by rw [e]; exact ⟨by simp, rfl⟩)⟩
  have hsy0 : ¬ 0 ≤ goSym c c.symbols 0 fun _ _ => 0 := by omega
  have hC6' : Chg w w6 none_ := hC5'.trans hC6 fun _ _ h => h
  have hN6 := hN5.chg hC6 id
  have hLk6 := ((hLk3.chg hC4).chg hC5).chg hC6
  have hcl := hs.lens
  have htx := hs.texts
  repeat' (first
      | (apply WC_seqK; intro K hK)
      | (apply hK; clear hK)
      | (clear hK; apply hK; clear hK)
      | (clear hK; clear hK; apply hK; clear hK)
      | (clear hK; clear hK; clear hK; apply hK; clear hK)
      | (apply WC_block)
      | (apply WC_region)
      | (apply WL_nil)
      | (apply thenQ_normal)
      | (apply thenQ_ret)
      | (apply thenQ_exit)
      | (apply blockQ_hit)
      | (apply blockQ_miss; eq_refl)
      | (apply blockQ_ret)
      | (apply blockQ_normal)
      | (apply WC_ret)
      | (apply WC_exit)
      | (apply WC_skip)
      | (apply WC_if_true; eq_refl)
      | (apply WC_if_false; eq_refl)
      | (apply ret1; eq_refl)
      | (apply ret2; eq_refl; eq_refl)
      | (apply ret3; eq_refl; eq_refl; eq_refl)
      | (apply ret0)
      | (apply ret0n)
      | (apply WL_on0; eq_refl)
      | (apply X_pv; eq_refl; first | exact trivial | omega)
      | (apply X_field; eq_refl)
      | (apply X_loadR; eq_refl; (first | assumption | (apply Blk.alloc; assumption) | apply Blk.new | apply Blk.newA | (apply Blk.alloc; first | apply Blk.newA | (apply Blk.alloc; first | assumption | apply Blk.newA))); eq_refl)
      | (apply X_loadW; eq_refl; (first | assumption | (apply Blk.alloc; assumption) | apply Blk.new | apply Blk.newA | (apply Blk.alloc; first | apply Blk.newA | (apply Blk.alloc; first | assumption | apply Blk.newA))); eq_refl)
      | (apply X_loadC; eq_refl; (first | assumption | (apply cel; first | assumption | (apply cel; assumption))))
      | (apply X_cmpT; eq_refl; eq_refl; omega)
      | (apply X_cmpF; eq_refl; eq_refl; omega)
      | (apply X_cmp; eq_refl; eq_refl; all_goals intro _)
      | (apply X_len; eq_refl)
      | (apply X_lenS; eq_refl)
      | (apply X_index; eq_refl; eq_refl; omega; omega)
      | (apply X_indexP; eq_refl; eq_refl; omega; omega)
      | (apply X_fieldP; eq_refl)
      | (apply X_neqB; eq_refl; eq_refl)
      | (apply X_box; eq_refl)
      | (apply X_pure; apply build150_0_1 <;> eq_refl))
  refine WC_loop (fun i : Nat => [(6, pt (w1.heap.size + 1)), (56, .slice (h 10).1 c.comments.length (h 10).2), (57, nu c.comments.length), (58, nu i)])
    (fun i w' => Chg w w' none_ ∧ Lk w' (w1.heap.size + 1) w1.heap.size c h js (tabM c) ∧ i ≤ c.comments.length ∧ goCom (c.comments.drop i) i = goCom c.comments 0) (fun i => c.comments.length - i) 0 ⟨rfl, rfl, rfl, rfl, trivial⟩ ⟨hC6', hLk6, Nat.zero_le _, rfl⟩ ?_
  clear hC6' hLk6 hN6 hsy hcy hus hN5 hC5' hC4' hC3' hLk2 hLk3 hN3 hN2
  rintro i w7 ⟨hC7, hLk7, hi, hgo⟩
  rcases Nat.lt_or_ge i c.comments.length with hlt | hge
  · obtain ⟨p, hp, hpc⟩ := (H.chg hC7).comments.one hlt (v := .string c.comments[i]) rfl
    rw [goCom_step hlt] at hgo
    have htl := htx _ (List.getElem_mem hlt)
    rw [hp]
    generalize hx : c.comments[i] = s at *
    have hcl10 := hcl.2.2.2.2.2.2.2.2.2
    repeat' (first
      | (apply X_toBytes; eq_refl; intro w8 cp hC8 hR8)
      | (apply WC_seqK; intro K hK)
      | (apply hK; clear hK)
      | (clear hK; apply hK; clear hK)
      | (clear hK; clear hK; apply hK; clear hK)
      | (clear hK; clear hK; clear hK; apply hK; clear hK)
      | (apply WC_block)
      | (apply WC_region)
      | (apply WL_nil)
      | (apply thenQ_normal)
      | (apply thenQ_ret)
      | (apply thenQ_exit)
      | (apply blockQ_hit)
      | (apply blockQ_miss; eq_refl)
      | (apply blockQ_ret)
      | (apply blockQ_normal)
      | (apply WC_ret)
      | (apply WC_exit)
      | (apply WC_skip)
      | (apply WC_if_true; eq_refl)
      | (apply WC_if_false; eq_refl)
      | (apply ret1; eq_refl)
      | (apply ret2; eq_refl; eq_refl)
      | (apply ret3; eq_refl; eq_refl; eq_refl)
      | (apply ret0)
      | (apply ret0n)
      | (apply WL_on0; eq_refl)
      | (apply X_pv; eq_refl; first | exact trivial | omega)
      | (apply X_field; eq_refl)
      | (apply X_loadR; eq_refl; (first | assumption | (apply Blk.alloc; assumption) | apply Blk.new | apply Blk.newA | (apply Blk.alloc; first | apply Blk.newA | (apply Blk.alloc; first | assumption | apply Blk.newA))); eq_refl)
      | (apply X_loadW; eq_refl; (first | assumption | (apply Blk.alloc; assumption) | apply Blk.new | apply Blk.newA | (apply Blk.alloc; first | apply Blk.newA | (apply Blk.alloc; first | assumption | apply Blk.newA))); eq_refl)
      | (apply X_loadC; eq_refl; (first | assumption | (apply cel; first | assumption | (apply cel; assumption))))
      | (apply X_cmpT; eq_refl; eq_refl; omega)
      | (apply X_cmpF; eq_refl; eq_refl; omega)
      | (apply X_cmp; eq_refl; eq_refl; all_goals intro _)
      | (apply X_len; eq_refl)
      | (apply X_lenS; eq_refl)
      | (apply X_index; eq_refl; eq_refl; omega; omega)
      | (apply X_indexP; eq_refl; eq_refl; omega; omega)
      | (apply X_fieldP; eq_refl)
      | (apply X_neqB; eq_refl; eq_refl)
      | (apply X_box; eq_refl)
      | (apply X_pure; apply build150_0_1 <;> eq_refl))
    have hct := containsB_cv (x := 10) (c := cp) hR8 (by rw [bytesI_len]; exact htl)
    repeat' (first
      | (apply X_fn; eq_refl; exact hct; rintro v9 w9 ⟨hv9, rfl⟩; rcases hv9 with ⟨rfl, hv9⟩ | ⟨rfl, hv9⟩)
      | (apply WC_seqK; intro K hK)
      | (apply hK; clear hK)
      | (clear hK; apply hK; clear hK)
      | (clear hK; clear hK; apply hK; clear hK)
      | (clear hK; clear hK; clear hK; apply hK; clear hK)
      | (apply WC_block)
      | (apply WC_region)
      | (apply WL_nil)
      | (apply thenQ_normal)
      | (apply thenQ_ret)
      | (apply thenQ_exit)
      | (apply blockQ_hit)
      | (apply blockQ_miss; eq_refl)
      | (apply blockQ_ret)
      | (apply blockQ_normal)
      | (apply WC_ret)
      | (apply WC_exit)
      | (apply WC_skip)
      | (apply WC_if_true; eq_refl)
      | (apply WC_if_false; eq_refl)
      | (apply ret1; eq_refl)
      | (apply ret2; eq_refl; eq_refl)
      | (apply ret3; eq_refl; eq_refl; eq_refl)
      | (apply ret0)
      | (apply ret0n)
      | (apply WL_on0; eq_refl)
      | (apply X_pv; eq_refl; first | exact trivial | omega)
      | (apply X_field; eq_refl)
      | (apply X_loadR; eq_refl; (first | assumption | (apply Blk.alloc; assumption) | apply Blk.new | apply Blk.newA | (apply Blk.alloc; first | apply Blk.newA | (apply Blk.alloc; first | assumption | apply Blk.newA))); eq_refl)
      | (apply X_loadW; eq_refl; (first | assumption | (apply Blk.alloc; assumption) | apply Blk.new | apply Blk.newA | (apply Blk.alloc; first | apply Blk.newA | (apply Blk.alloc; first | assumption | apply Blk.newA))); eq_refl)
      | (apply X_loadC; eq_refl; (first | assumption | (apply cel; first | assumption | (apply cel; assumption))))
      | (apply X_cmpT; eq_refl; eq_refl; omega)
      | (apply X_cmpF; eq_refl; eq_refl; omega)
      | (apply X_cmp; eq_refl; eq_refl; all_goals intro _)
      | (apply X_len; eq_refl)
      | (apply X_lenS; eq_refl)
      | (apply X_index; eq_refl; eq_refl; omega; omega)
      | (apply X_indexP; eq_refl; eq_refl; omega; omega)
      | (apply X_fieldP; eq_refl)
      | (apply X_neqB; eq_refl; eq_refl)
      | (apply X_box; eq_refl)
      | (apply X_pure; apply build150_0_1 <;> eq_refl))
    · rw [if_pos hv9] at hgo
      have e : lookM c = ((i : Int), 36) := by unfold lookM; rw [if_neg (fun hh => hh hsz), if_neg (fun hh => hh hd), if_neg (fun hh => hh hu), hc, if_neg hr0, if_neg hsy0, ← hgo, if_pos (by omega)]
      exact ⟨hC7.trans hC8 fun _ _ h => h, .inl (by rw [e]; exact ⟨by simp, rfl⟩)⟩
    · rw [if_neg hv9] at hgo
      exact ⟨i + 1, ⟨rfl, by first | rfl | (rw [hp]; rfl), rfl, rfl, trivial⟩, ⟨hC7.trans hC8 fun _ _ h => h, hLk7.chg hC8, hlt, hgo⟩, by omega⟩
  · rw [List.drop_eq_nil_of_le hge] at hgo
    have e : lookM c = (0, 0) := by unfold lookM; rw [if_neg (fun hh => hh hsz), if_neg (fun hh => hh hd), if_neg (fun hh => hh hu), hc, if_neg hr0, if_neg hsy0, ← hgo, if_neg (by simp [goCom])]
    repeat' (first
      | (apply WC_seqK; intro K hK)
      | (apply hK; clear hK)
      | (clear hK; apply hK; clear hK)
      | (clear hK; clear hK; apply hK; clear hK)
      | (clear hK; clear hK; clear hK; apply hK; clear hK)
      | (apply WC_block)
      | (apply WC_region)
      | (apply WL_nil)
      | (apply thenQ_normal)
      | (apply thenQ_ret)
      | (apply thenQ_exit)
      | (apply blockQ_hit)
      | (apply blockQ_miss; eq_refl)
      | (apply blockQ_ret)
      | (apply blockQ_normal)
      | (apply WC_ret)
      | (apply WC_exit)
      | (apply WC_skip)
      | (apply WC_if_true; eq_refl)
      | (apply WC_if_false; eq_refl)
      | (apply ret1; eq_refl)
      | (apply ret2; eq_refl; eq_refl)
      | (apply ret3; eq_refl; eq_refl; eq_refl)
      | (apply ret0)
      | (apply ret0n)
      | (apply WL_on0; eq_refl)
      | (apply X_pv; eq_refl; first | exact trivial | omega)
      | (apply X_field; eq_refl)
      | (apply X_loadR; eq_refl; (first | assumption | (apply Blk.alloc; assumption) | apply Blk.new | apply Blk.newA | (apply Blk.alloc; first | apply Blk.newA | (apply Blk.alloc; first | assumption | apply Blk.newA))); eq_refl)
      | (apply X_loadW; eq_refl; (first | assumption | (apply Blk.alloc; assumption) | apply Blk.new | apply Blk.newA | (apply Blk.alloc; first | apply Blk.newA | (apply Blk.alloc; first | assumption | apply Blk.newA))); eq_refl)
      | (apply X_loadC; eq_refl; (first | assumption | (apply cel; first | assumption | (apply cel; assumption))))
      | (apply X_cmpT; eq_refl; eq_refl; omega)
      | (apply X_cmpF; eq_refl; eq_refl; omega)
      | (apply X_cmp; eq_refl; eq_refl; all_goals intro _)
      | (apply X_len; eq_refl)
      | (apply X_lenS; eq_refl)
      | (apply X_index; eq_refl; eq_refl; omega; omega)
      | (apply X_indexP; eq_refl; eq_refl; omega; omega)
      | (apply X_fieldP; eq_refl)
      | (apply X_neqB; eq_refl; eq_refl)
      | (apply X_box; eq_refl)
      | (apply X_pure; apply build150_0_1 <;> eq_refl))
    obtain ⟨out, ha, hcr⟩ := hcr
    refine ⟨hC7, .inr ⟨_, _, by rw [e], rfl, hLk7, hLO3, out, ha, ?_⟩⟩
    rcases hcr with ⟨h1, _⟩ | ⟨_, h2, _⟩
    · exact h1
    · unfold rg at h2; omega
theorem check_cv {w : World} {c : Circ} {h js : Hd} (H : CirAt w c h js) (hs : c.Sane) : CV Try.prog 24 [.agg (ccells c h).toArray] w fun v w' => v = .tuple #[nu (lookM c).1, nu (lookM c).2] ∧ Chg w w' none_ := by
  have hC := Chg.alloc w (.cells (ccells c h).toArray 51) none_
  have hlk := look_cv (H.chg hC) hs
  refine enter 12 [2, 3] Try.func24 rfl rfl rfl (by decide) rfl ?_
  repeat' (first
      | (apply X_fn; eq_refl; exact hlk; rintro _ w1 ⟨hC1, hv⟩; rcases hv with ⟨he, rfl⟩ | ⟨q, b, he, rfl, _⟩)
      | (apply WC_seqK; intro K hK)
      | (apply hK; clear hK)
      | (clear hK; apply hK; clear hK)
      | (clear hK; clear hK; apply hK; clear hK)
      | (clear hK; clear hK; clear hK; apply hK; clear hK)
      | (apply WC_block)
      | (apply WC_region)
      | (apply WL_nil)
      | (apply thenQ_normal)
      | (apply thenQ_ret)
      | (apply thenQ_exit)
      | (apply blockQ_hit)
      | (apply blockQ_miss; eq_refl)
      | (apply blockQ_ret)
      | (apply blockQ_normal)
      | (apply WC_ret)
      | (apply WC_exit)
      | (apply WC_skip)
      | (apply WC_if_true; eq_refl)
      | (apply WC_if_false; eq_refl)
      | (apply ret1; eq_refl)
      | (apply ret2; eq_refl; eq_refl)
      | (apply ret3; eq_refl; eq_refl; eq_refl)
      | (apply ret0)
      | (apply ret0n)
      | (apply WL_on0; eq_refl)
      | (apply X_pv; eq_refl; first | exact trivial | omega)
      | (apply X_loadR; eq_refl; (first | assumption | (apply Blk.alloc; assumption) | apply Blk.new | apply Blk.newA | (apply Blk.alloc; first | apply Blk.newA | (apply Blk.alloc; first | assumption | apply Blk.newA))); eq_refl)
      | (apply X_loadW; eq_refl; (first | assumption | (apply Blk.alloc; assumption) | apply Blk.new | apply Blk.newA | (apply Blk.alloc; first | apply Blk.newA | (apply Blk.alloc; first | assumption | apply Blk.newA))); eq_refl)
      | (apply X_loadC; eq_refl; (first | assumption | (apply cel; first | assumption | (apply cel; assumption))))
      | (apply X_box; eq_refl))
  · exact ⟨rfl, hC.trans hC1 fun _ _ h => h⟩
  · exact ⟨by rw [(lookM_ok he).1], hC.trans hC1 fun _ _ h => h⟩
theorem Order_cv {w : World} {c : Circ} {h js : Hd} (H : CirAt w c h js) (hs : c.Sane) : CV Try.prog 26 [.agg (ccells c h).toArray] w fun v w' => Chg w w' none_ ∧
    (((lookM c).2 ≠ 0 ∧ v = .tuple #[.slice none 0 0, nu (lookM c).2]) ∨ ((lookM c).2 = 0 ∧ ∃ out u, v = .tuple #[u, nu 0] ∧ All c.ands.length (gateB (tabM c) c) out ∧ out.length = c.ands.length ∧ w'.ownsRow w.heap.size 3 1 u out.length (out.map nu))) := by
  have hC := Chg.alloc w (.cells (ccells c h).toArray 51) none_
  have hlk := look_cv (H.chg hC) hs
  refine enter 18 [2, 3] Try.func26 rfl rfl rfl (by decide) rfl ?_
  repeat' (first
      | (apply X_fn; eq_refl; exact hlk; rintro _ w1 ⟨hC1, hv⟩; rcases hv with ⟨he, rfl⟩ | ⟨q, b, he, rfl, hLk, hLO, out0, ha0, hl0⟩)
      | (apply WC_seqK; intro K hK)
      | (apply hK; clear hK)
      | (clear hK; apply hK; clear hK)
      | (clear hK; clear hK; apply hK; clear hK)
      | (clear hK; clear hK; clear hK; apply hK; clear hK)
      | (apply WC_block)
      | (apply WC_region)
      | (apply WL_nil)
      | (apply thenQ_normal)
      | (apply thenQ_ret)
      | (apply thenQ_exit)
      | (apply blockQ_hit)
      | (apply blockQ_miss; eq_refl)
      | (apply blockQ_ret)
      | (apply blockQ_normal)
      | (apply WC_ret)
      | (apply WC_exit)
      | (apply WC_skip)
      | (apply WC_if_true; eq_refl)
      | (apply WC_if_false; eq_refl)
      | (apply ret1; eq_refl)
      | (apply ret2; eq_refl; eq_refl)
      | (apply ret3; eq_refl; eq_refl; eq_refl)
      | (apply ret0)
      | (apply ret0n)
      | (apply WL_on0; eq_refl)
      | (apply X_pv; eq_refl; first | exact trivial | omega)
      | (apply X_loadR; eq_refl; (first | assumption | (apply Blk.alloc; assumption) | apply Blk.new | apply Blk.newA | (apply Blk.alloc; first | apply Blk.newA | (apply Blk.alloc; first | assumption | apply Blk.newA))); eq_refl)
      | (apply X_loadW; eq_refl; (first | assumption | (apply Blk.alloc; assumption) | apply Blk.new | apply Blk.newA | (apply Blk.alloc; first | apply Blk.newA | (apply Blk.alloc; first | assumption | apply Blk.newA))); eq_refl)
      | (apply X_loadC; eq_refl; (first | assumption | (apply cel; first | assumption | (apply cel; assumption))))
      | (apply X_cmpT; eq_refl; eq_refl; omega)
      | (apply X_cmpF; eq_refl; eq_refl; omega)
      | (apply X_cmp; eq_refl; eq_refl; all_goals intro _)
      | (apply X_neqB; eq_refl; eq_refl)
      | (apply X_box; eq_refl))
  · exact ⟨hC.trans hC1 fun _ _ h => h, .inl ⟨he, rfl⟩⟩
  · obtain ⟨_, hsz, hd, hu, _⟩ := lookM_ok he
    obtain ⟨hm0, hm1, hln, hsum⟩ := sizesM_ok hsz
    have hTO : TabOk c (tabM c) := definesM_spec hm0 hd
    have hUA := usesM_spec.1 hu
    have hn : c.ands.length ≤ 16384 := by have := hln (c.ands.length : Int) (by simp [Circ.lens]); omega
    have hor := order_cv hLk hLO hn (fun x hx => ⟨(hUA.ands x hx).1.1, (hUA.ands x hx).1.2.1, (hUA.ands x hx).2.1, (hUA.ands x hx).2.2.1⟩) (hTO.below hUA)
    repeat' (first
      | (apply X_fn; eq_refl; exact hor; rintro u w2 ⟨out, ha, hrow, hC2⟩)
      | (apply WC_seqK; intro K hK)
      | (apply hK; clear hK)
      | (clear hK; apply hK; clear hK)
      | (clear hK; clear hK; apply hK; clear hK)
      | (clear hK; clear hK; clear hK; apply hK; clear hK)
      | (apply WC_block)
      | (apply WC_region)
      | (apply WL_nil)
      | (apply thenQ_normal)
      | (apply thenQ_ret)
      | (apply thenQ_exit)
      | (apply blockQ_hit)
      | (apply blockQ_miss; eq_refl)
      | (apply blockQ_ret)
      | (apply blockQ_normal)
      | (apply WC_ret)
      | (apply WC_exit)
      | (apply WC_skip)
      | (apply WC_if_true; eq_refl)
      | (apply WC_if_false; eq_refl)
      | (apply ret1; eq_refl)
      | (apply ret2; eq_refl; eq_refl)
      | (apply ret3; eq_refl; eq_refl; eq_refl)
      | (apply ret0)
      | (apply ret0n)
      | (apply WL_on0; eq_refl)
      | (apply X_pv; eq_refl; first | exact trivial | omega)
      | (apply X_loadR; eq_refl; (first | assumption | (apply Blk.alloc; assumption) | apply Blk.new | apply Blk.newA | (apply Blk.alloc; first | apply Blk.newA | (apply Blk.alloc; first | assumption | apply Blk.newA))); eq_refl)
      | (apply X_loadW; eq_refl; (first | assumption | (apply Blk.alloc; assumption) | apply Blk.new | apply Blk.newA | (apply Blk.alloc; first | apply Blk.newA | (apply Blk.alloc; first | assumption | apply Blk.newA))); eq_refl)
      | (apply X_loadC; eq_refl; (first | assumption | (apply cel; first | assumption | (apply cel; assumption))))
      | (apply X_cmpT; eq_refl; eq_refl; omega)
      | (apply X_cmpF; eq_refl; eq_refl; omega)
      | (apply X_cmp; eq_refl; eq_refl; all_goals intro _)
      | (apply X_neqB; eq_refl; eq_refl)
      | (apply X_box; eq_refl))
    have hs1 := hC1.size
    have hs0 := hC.size
    exact ⟨(hC.trans hC1 fun _ _ h => h).trans hC2 fun _ _ h => h, .inr ⟨he, out, u, rfl, ha, by rw [ha.only ha0]; exact hl0, own_mono hrow (Nat.le_trans hs0 hs1)⟩⟩
end SC
end Go.Proofs.Ytkndegjodnciaaa
