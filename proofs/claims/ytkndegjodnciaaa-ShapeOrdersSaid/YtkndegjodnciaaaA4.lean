/- The calculus, fourth part: memory. -/
import Derived.Test.YtkndegjodnciaaaA3
import Derived.Laws.OwnMore
import Derived.Deep.OwnRows
import Derived.Deep.AppendLies
import Derived.WalkLawsBesides
import Derived.Below
set_option linter.unusedVariables false
set_option linter.unusedSimpArgs false
namespace Go.Proofs.Ytkndegjodnciaaa
namespace SC

theorem agg_cells (cs : Array Value) : (Value.agg cs).cells = cs := rfl
/-! ### what is known of blocks; what has changed -/
/-- Block b is a row of these cells, of elements of type t. -/
def Blk (w : World) (b : Nat) (t : TypeId) (cs : List Value) : Prop := w.heap[b]? = some (.cells cs.toArray t (0, 0))
/-- From w to w' nothing has changed but blocks of S and new ones. -/
structure Chg (w w' : World) (S : Nat → Prop) : Prop where
  os : w'.os = w.os
  tape : w'.tape = w.tape
  output : w'.output = w.output
  size : w.heap.size ≤ w'.heap.size
  block : ∀ k, k < w.heap.size → ¬ S k → w'.heap[k]? = w.heap[k]?
def none_ : Nat → Prop := fun _ => False
theorem Chg.refl (w : World) (S : Nat → Prop) : Chg w w S := ⟨rfl, rfl, rfl, Nat.le_refl _, fun _ _ _ => rfl⟩
theorem Chg.trans {w w1 w2 : World} {S T : Nat → Prop} (h : Chg w w1 S) (h' : Chg w1 w2 T) (hT : ∀ k, k < w.heap.size → T k → S k) : Chg w w2 S :=
  ⟨h'.os.trans h.os, h'.tape.trans h.tape, h'.output.trans h.output, Nat.le_trans h.size h'.size,
   fun k hk hS => (h'.block k (Nat.lt_of_lt_of_le hk h.size) (fun ht => hS (hT k hk ht))).trans (h.block k hk hS)⟩
theorem Chg.mono {w w' : World} {S T : Nat → Prop} (h : Chg w w' S) (hT : ∀ k, S k → T k) : Chg w w' T := ⟨h.os, h.tape, h.output, h.size, fun k hk hn => h.block k hk fun hs => hn (hT k hs)⟩
theorem Chg.alloc (w : World) (o : Obj) (S : Nat → Prop) : Chg w (w.alloc o) S := ⟨rfl, rfl, rfl, by simp, fun k hk _ => heap_alloc_old w o hk⟩
theorem Chg.drew (w : World) (S : Nat → Prop) : Chg w w.drew S := ⟨rfl, rfl, rfl, Nat.le_refl _, fun _ _ _ => rfl⟩
theorem Chg.drewN (w : World) (n : Nat) (S : Nat → Prop) : Chg w (w.drewN n) S := ⟨rfl, rfl, rfl, Nat.le_refl _, fun _ _ _ => rfl⟩
theorem Chg.setRow (w : World) (g : Nat) (cs : Array Value) {S : Nat → Prop} (h : S g) : Chg w (w.setRow g cs) S :=
  ⟨rfl, rfl, rfl, by simp [World.setRow], fun k hk hn => setRow_other w g k cs (fun e => hn (e ▸ h))⟩
theorem Chg.setCell (w : World) (a : Addr) (v : Value) {S : Nat → Prop} (h : S a.block) : Chg w (w.setCell a v) S :=
  ⟨rfl, rfl, rfl, by simp, fun k hk hn => by
    have : k ≠ a.block := fun e => hn (e ▸ h)
    simp [World.setCell, Array.getElem?_modify, Ne.symm this]⟩
theorem Chg.of_grown {w w' : World} {row : Option Nat} (h : w.grownBy w' row) : Chg w w' (fun k => row = some k) := ⟨h.os, h.tape, h.output, h.size, fun k hk hn => h.block k hk (fun e => hn e.symm)⟩
theorem Chg.grown {w w' : World} {S : Nat → Prop} (h : Chg w w' S) (row : Option Nat) (hS : ∀ k, S k → row = some k) : w.grownBy w' row := ⟨h.os, h.tape, h.output, h.size, fun k hk hn => h.block k hk fun hs => hn (hS k hs).symm⟩
theorem Chg.below {w w' : World} {S : Nat → Prop} (h : Chg w w' S) {B : Nat} (hB : B ≤ w.heap.size) (hS : ∀ k, k < B → ¬ S k) : Go.RowKit.Below B w w' := ⟨h.os, h.tape, h.output, h.size, fun k hk => h.block k (Nat.lt_of_lt_of_le hk hB) (hS k hk)⟩
theorem Chg.of_below {w w' : World} (h : Go.RowKit.Below w.heap.size w w') (S : Nat → Prop) : Chg w w' S := ⟨h.os, h.tape, h.output, h.size, fun k hk _ => h.block k hk⟩
theorem Blk.lt {w : World} {b : Nat} {t : TypeId} {cs : List Value} (h : Blk w b t cs) : b < w.heap.size := (Array.getElem?_eq_some_iff.1 h).1
theorem Blk.chg {w w' : World} {b : Nat} {t : TypeId} {cs : List Value} {S : Nat → Prop} (h : Blk w b t cs) (hc : Chg w w' S) (hn : ¬ S b) : Blk w' b t cs := (hc.block b h.lt hn).trans h
theorem Blk.alloc {w : World} {b : Nat} {t : TypeId} {cs : List Value} (o : Obj) (h : Blk w b t cs) : Blk (w.alloc o) b t cs := h.chg (Chg.alloc w o none_) id
theorem Blk.drew {w : World} {b : Nat} {t : TypeId} {cs : List Value} (h : Blk w b t cs) : Blk w.drew b t cs := h
theorem Blk.new (w : World) (cs : List Value) (t : TypeId) : Blk (w.alloc (.cells cs.toArray t)) w.heap.size t cs := heap_alloc_new w _
theorem Blk.newA (w : World) (cs : Array Value) (t : TypeId) : Blk (w.alloc (.cells cs t)) w.heap.size t cs.toList := by simpa [Blk] using heap_alloc_new w (.cells cs t)
theorem Blk.set {w : World} {b : Nat} {t : TypeId} {cs : List Value} (h : Blk w b t cs) (cs' : List Value) : Blk (w.setRow b cs'.toArray) b t cs' := setRow_heap w b _ _ t _ h
theorem Blk.cell {w : World} {b : Nat} {t : TypeId} {cs : List Value} (h : Blk w b t cs) (j : Nat) : w.cell? ⟨b, j, none⟩ = cs[j]? := by rw [cell_of_row w b j _ t (0, 0) h]; simp
theorem Blk.frozen {w : World} {b : Nat} {t : TypeId} {cs : List Value} (h : Blk w b t cs) (j : Nat) : w.frozen? ⟨b, j, none⟩ = false := by
  have h' : w.heap[b]? = some (.cells cs.toArray t (0, 0)) := h
  simp [World.frozen?, h']
theorem cel_chg {w w' : World} {a : Addr} {v : Value} {S : Nat → Prop} (h : w.cell? a = some v) (hc : Chg w w' S) (hn : ¬ S a.block) : w'.cell? a = some v :=
  (World.cell?_of_block (hc.block a.block (World.block_lt_of_cell? _ _ h) hn)).trans h
theorem cel {w : World} {a : Addr} {v : Value} (o : Obj) (h : w.cell? a = some v) : (w.alloc o).cell? a = some v := (World.cell?_alloc_lt _ _ _ (World.block_lt_of_cell? _ _ h)).trans h

section
variable {P : Program} {ty : TypeId} {e : Env} {w : World} {x y z : Operand} {v u : Value} {t t' : TypeId} {d : TypeDesc} {sz : Nat} {zv : Value} {by_ : Nat} {ag : Bool}
/-! ### loads -/
theorem run_loadAt1 (T : Ty P t d sz zv by_ false) {p : Addr} (h : w.cell? p = some v) : (Instr.loadAt t (.pointer (some p))).run P w = .ok v w := by
  simp [Instr.loadAt, Instr.sureAddr, loadVar, T.agg, h]
theorem does_loadC [T : Ty P t d sz zv by_ false] {p : Addr} (h : ev e x = some (.pointer (some p))) (hc : w.cell? p = some v) : Does P (.load t x) ty e w v w := by
  intro ρ dst pos af g hρ
  simp [execOp, hρ _ _ h, run_loadAt1 T hc]
theorem does_load1 [T : Ty P t d sz zv by_ false] {b o : Nat} {t1 : TypeId} {cs : List Value} (h : ev e x = some (.pointer (some ⟨b, o, none⟩))) (hb : Blk w b t1 cs) (hv : cs[o]? = some v) : Does P (.load t x) ty e w v w :=
  does_loadC h ((hb.cell o).trans hv)
theorem run_loadAtA (T : Ty P t d sz zv by_ true) {b o : Nat} (cs : List Value) (hl : cs.length = sz) (h : ∀ j v, cs[j]? = some v → w.cell? ⟨b, o + j, none⟩ = some v) : (Instr.loadAt t (.pointer (some ⟨b, o, none⟩))).run P w = .ok (.agg cs.toArray) w := by
  have hr := run_loadCells_list (P := P) w ⟨b, o, none⟩ cs (fun j v hv => by rw [add_at]; exact h j v hv)
  subst hl
  simp [Instr.loadAt, Instr.sureAddr, loadVar, T.agg, T.size, hr]
theorem does_loadR [T : Ty P t d sz zv by_ true] {b o : Nat} (cs : List Value) (h : ev e x = some (.pointer (some ⟨b, o, none⟩))) (hl : cs.length = sz) (hc : ∀ j v, cs[j]? = some v → w.cell? ⟨b, o + j, none⟩ = some v) : Does P (.load t x) ty e w (.agg cs.toArray) w := by
  intro ρ dst pos af g hρ
  simp [execOp, hρ _ _ h, run_loadAtA T cs hl hc]
theorem run_loadAtP (T : Ty P t d sz zv by_ true) {p : Addr} (cs : List Value) (hl : cs.length = sz) (h : ∀ j v, cs[j]? = some v → w.cell? (p.add j) = some v) : (Instr.loadAt t (.pointer (some p))).run P w = .ok (.agg cs.toArray) w := by
  have hr := run_loadCells_list (P := P) w p cs h
  subst hl
  simp [Instr.loadAt, Instr.sureAddr, loadVar, T.agg, T.size, hr]
theorem does_loadRP [T : Ty P t d sz zv by_ true] {p : Addr} (cs : List Value) (h : ev e x = some (.pointer (some p))) (hl : cs.length = sz) (hc : ∀ j v, cs[j]? = some v → w.cell? (p.add j) = some v) : Does P (.load t x) ty e w (.agg cs.toArray) w := by
  intro ρ dst pos af g hρ
  simp [execOp, hρ _ _ h, run_loadAtP T cs hl hc]
/-- A whole variable of a struct type. -/
theorem does_loadB [T : Ty P t d sz zv by_ true] {b : Nat} {t1 : TypeId} {cs : List Value} (h : ev e x = some (.pointer (some ⟨b, 0, none⟩))) (hb : Blk w b t1 cs) (hl : cs.length = sz) : Does P (.load t x) ty e w (.agg cs.toArray) w :=
  does_loadR cs h hl (fun j v hv => by rw [Nat.zero_add, hb.cell]; exact hv)
/-! ### stores -/
/-- The cells from o on are these. -/
def splice (cs : List Value) (o : Nat) (vs : List Value) : List Value := cs.take o ++ vs ++ cs.drop (o + vs.length)
theorem does_store1 [T : Ty P t d 1 zv by_ ag] {b o : Nat} {t1 : TypeId} {cs : List Value} (h : ev e x = some (.pointer (some ⟨b, o, none⟩))) (h1 : ev e y = some v) (hb : Blk w b t1 cs) (hlt : o < cs.length) (hv : v.cells = #[v]) (h2 : v.oneCell' = true) :
    DoesU P (.store t x y) ty e w (w.setRow b (cs.set o v).toArray) := by
  intro ρ dst pos af g hρ
  have hs := run_storeCells_at P b o t1 [v] 0 cs.toArray w hb (by simp; omega) (by simpa using h2)
  have e1 : (cs.set o v) = cs.take (o + 0) ++ [v] ++ cs.drop (o + 0 + 1) := by
    simp only [Nat.add_zero, List.append_assoc, List.singleton_append]
    exact List.set_eq_take_append_cons_drop.trans (by rw [if_pos hlt])
  simp only [List.length_singleton] at hs
  rw [← e1] at hs
  simp [execOp, hρ _ _ h, hρ _ _ h1, Instr.storeAt, Instr.sureAddr, storeVar, hv, T.size, hs]
theorem does_storeA [T : Ty P t d sz zv by_ ag] {b o : Nat} {t1 : TypeId} {cs vs : List Value} (h : ev e x = some (.pointer (some ⟨b, o, none⟩))) (h1 : ev e y = some (.agg vs.toArray)) (hb : Blk w b t1 cs) (hl : vs.length = sz) (hlt : o + vs.length ≤ cs.length) (h2 : ∀ v ∈ vs, v.oneCell' = true) :
    DoesU P (.store t x y) ty e w (w.setRow b (splice cs o vs).toArray) := by
  intro ρ dst pos af g hρ
  have hs := run_storeCells_at P b o t1 vs 0 cs.toArray w hb (by simpa using hlt) h2
  simp only [Nat.add_zero] at hs
  subst hl
  simp [execOp, hρ _ _ h, hρ _ _ h1, Instr.storeAt, Instr.sureAddr, storeVar, Value.cells, T.size, splice]
  have hs' : (storeCells ⟨b, o, none⟩ vs).run P w = .ok () (w.setRow b (cs.take o ++ (vs ++ cs.drop (o + vs.length))).toArray) := by simpa using hs
  rw [hs']
  rfl
/-! ### new memory -/
theorem does_alloc [T : Ty P t d sz zv by_ ag] : Does P (.alloc t) ty e w (.pointer (some ⟨w.heap.size, 0, none⟩)) (w.alloc (.cells zv.cells t)) := by
  intro ρ dst pos af g hρ
  simp [execOp, Instr.alloc, T.zero, newVar, newRow]
theorem does_box (h : ev e x = some v) : Does P (.box t x) ty e w (.pointer (some ⟨w.heap.size, 0, none⟩)) (w.alloc (.cells v.cells t)) := by
  intro ρ dst pos af g hρ
  simp [execOp, Instr.box, hρ _ _ h, newVar, newRow]
theorem does_makeMap (r : Option Operand) (hr : r = none) : Does P (.makeMap t r) ty e w (.map (some w.heap.size)) (w.alloc (.map #[] 0)) := by
  subst hr
  intro ρ dst pos af g hρ
  simp [execOp, Instr.makeMap]
theorem does_makeSlice {t0 : TypeId} (hu : P.underlying t = some (.slice t0)) (T : Ty P t0 d sz zv by_ ag) {n : Nat} {k : IntKind} (h : ev e x = some (.int k (n : Int))) (hn : (by_ : Int) * n ≤ 281474976710656) (h63 : (n : Int) ≤ 9223372036854775807) :
    Does P (.makeSlice t x x) ty e w (.slice (some ⟨w.heap.size, 0, none⟩) n n) (w.alloc (.cells (madeCells zv.cells (n * sz)) t0)) := by
  intro ρ dst pos af g hρ
  obtain ⟨i, hi, hzz⟩ := Option.map_eq_some_iff.1 T.info
  simp only [Prod.mk.injEq] at hzz
  have hr := run_make (P := P) w t t0 i zv hu hi hzz.1 k k n n (by omega) (Int.le_refl _) (by rw [hzz.2.2]; exact hn) h63
  simp only [Int.toNat_natCast, hzz.2.1] at hr
  simp [execOp, hρ _ _ h, hr]
theorem does_len {t0 : TypeId} {A : Option Addr} {n c : Nat} (hu : P.underlying t = some (.slice t0)) (h : ev e x = some (.slice A n c)) : Does P (.call { callee := .builtin .len, args := #[x], argTypes := #[t] }) ty e w (.int .i64 (n : Int)) w := by
  intro ρ dst pos af g hρ
  simp [execOp, resolve, hρ _ _ h, invoke, builtin, Builtin.len_, run_underlying hu, goInt]
theorem does_lenS {s : ByteArray} (hu : P.underlying t = some .string) (h : ev e x = some (.string s)) : Does P (.call { callee := .builtin .len, args := #[x], argTypes := #[t] }) ty e w (.int .i64 (s.size : Int)) w := by
  intro ρ dst pos af g hρ
  simp [execOp, resolve, hρ _ _ h, invoke, builtin, Builtin.len_, run_underlying hu, goInt]
theorem does_cap {t0 : TypeId} {A : Option Addr} {n c : Nat} (hu : P.underlying t = some (.slice t0)) (h : ev e x = some (.slice A n c)) : Does P (.call { callee := .builtin .cap, args := #[x], argTypes := #[t] }) ty e w (.int .i64 (c : Int)) w := by
  intro ρ dst pos af g hρ
  simp [execOp, resolve, hρ _ _ h, invoke, builtin, Builtin.cap_, run_underlying hu, goInt]
theorem does_max {a b : Int} (h : ev e x = some (.int .i64 a)) (h1 : ev e y = some (.int .i64 b)) : Does P (.call { callee := .builtin .max, args := #[x, y], argTypes := #[t, t'] }) ty e w (.int .i64 (max a b)) w := by
  intro ρ dst pos af g hρ
  have : (if a < b then b else a) = max a b := by omega
  simp [execOp, resolve, hρ _ _ h, hρ _ _ h1, invoke, builtin, Builtin.max_, Builtin.max2, this]
theorem does_min {a b : Int} (h : ev e x = some (.int .i64 a)) (h1 : ev e y = some (.int .i64 b)) : Does P (.call { callee := .builtin .min, args := #[x, y], argTypes := #[t, t'] }) ty e w (.int .i64 (min a b)) w := by
  intro ρ dst pos af g hρ
  have : (if b < a then b else a) = min a b := by omega
  simp [execOp, resolve, hρ _ _ h, hρ _ _ h1, invoke, builtin, Builtin.min_, Builtin.min2, this]
/-! ### append: the new value, where it lies -/
theorem does_appendC {t0 : TypeId} (base : Nat) (hu : P.underlying t = some (.slice t0)) (T : Ty P t0 d sz zv by_ ag) (hzs : zv.cells.size = sz) (hsz : 0 < sz) {n : Nat} {xs : List Value} (h : ev e x = some v) (hown : w.ownsRow base t0 sz v n xs)
    {b m c : Nat} {news : List Value} (h1 : ev e y = some (.slice (some ⟨b, 0, none⟩) m c)) (hl : news.length = m * sz) (hb : ∀ j u, news[j]? = some u → w.cell? ⟨b, j, none⟩ = some u) (ho : ∀ u ∈ news, u.oneCell' = true) (hby : (n + m) * by_ ≤ 140737488355328) (hby1 : 1 ≤ by_) (hbase : base ≤ w.heap.size) :
    ∃ v' w', Does P (.call { callee := .builtin .append, args := #[x, y], argTypes := #[t, t] }) ty e w v' w' ∧ w'.ownsRow base t0 sz v' (n + m) (xs ++ news) ∧ Chg w w' (fun k => v.ownBlock = some k) ∧
      (v'.ownBlock = v.ownBlock ∨ v'.ownBlock = some w.heap.size) ∧ (v' = .slice none 0 0 ↔ v = .slice none 0 0 ∧ m = 0) := by
  obtain ⟨i, hi, hzz⟩ := Option.map_eq_some_iff.1 T.info
  simp only [Prod.mk.injEq] at hzz
  have hle : n + m ≤ (n + m) * by_ := Nat.le_mul_of_pos_right _ hby1
  obtain ⟨v', w', hr, h2, h3, h4, h5⟩ := run_append_own_at (P := P) w base t ty t0 i zv sz by_ hu hi hzz.1 hzz.2.1 hzz.2.2 hzs hsz v n xs hown ⟨b, 0, none⟩ m c news hl
    (fun j u hj => by rw [add_at, Nat.zero_add]; exact hb j u hj) ho (by simp only [maxLen]; omega) hby hbase
  refine ⟨v', w', ?_, h2, (Chg.of_grown h3), h5, h4⟩
  intro ρ dst pos af g hρ
  simp [execOp, resolve, hρ _ _ h, hρ _ _ h1, invoke, builtin, hr]
theorem does_append {t0 : TypeId} (base : Nat) (hu : P.underlying t = some (.slice t0)) (T : Ty P t0 d sz zv by_ ag) (hzs : zv.cells.size = sz) (hsz : 0 < sz) {n : Nat} {xs : List Value} (h : ev e x = some v) (hown : w.ownsRow base t0 sz v n xs)
    {b m c : Nat} {news : List Value} (h1 : ev e y = some (.slice (some ⟨b, 0, none⟩) m c)) (hl : news.length = m * sz) (hb : Blk w b t' news) (ho : ∀ u ∈ news, u.oneCell' = true) (hby : (n + m) * by_ ≤ 140737488355328) (hby1 : 1 ≤ by_) (hbase : base ≤ w.heap.size) :
    ∃ v' w', Does P (.call { callee := .builtin .append, args := #[x, y], argTypes := #[t, t] }) ty e w v' w' ∧ w'.ownsRow base t0 sz v' (n + m) (xs ++ news) ∧ Chg w w' (fun k => v.ownBlock = some k) ∧
      (v'.ownBlock = v.ownBlock ∨ v'.ownBlock = some w.heap.size) ∧ (v' = .slice none 0 0 ↔ v = .slice none 0 0 ∧ m = 0) :=
  does_appendC base hu T hzs hsz h hown h1 hl (fun j u hj => by rw [hb.cell]; exact hj) ho hby hby1 hbase
/-! ### calls -/
theorem enters {f : FuncId} [F : Fn P f] {args : Array Operand} {ats : Array TypeId} {vs : List Value} (h : args.toList.map (ev e) = vs.map some) : Enters P (.call { callee := .value (.func f), args := args, argTypes := ats }) ty e f vs := by
  intro ρ dst pos af g w hρ
  have hargs : args.map ρ = vs.toArray := by
    apply Array.ext'
    simp only [Array.toList_map]
    have : ∀ (l : List Operand) (vs : List Value), l.map (ev e) = vs.map some → l.map ρ = vs := by
      intro l
      induction l with
      | nil => intro vs h; cases vs with
        | nil => rfl
        | cons => simp at h
      | cons a l ih => intro vs h; cases vs with
        | nil => simp at h
        | cons u us => simp only [List.map_cons, List.cons.injEq] at h; simp [hρ _ _ h.1, ih us h.2]
    exact this _ _ h
  have hf : ρ (.func f) = .func (.func f) #[] #[] := hρ _ _ rfl
  simp [execOp, resolve, hargs, hf, Deferred.ofValue, invoke, F.call]
/-- A call of a closure that lies in a slot. -/
theorem entersC {f : FuncId} [F : Fn P f] {args : Array Operand} {ats : Array TypeId} {vs : List Value} {cap : Array Value} (hx : ev e x = some (.func (.func f) #[] cap)) (h : args.toList.map (ev e) = vs.map some) :
    Enters P (.call { callee := .value x, args := args, argTypes := ats }) ty e f (vs ++ cap.toList) := by
  intro ρ dst pos af g w hρ
  have hargs : args.map ρ = vs.toArray := by
    apply Array.ext'
    simp only [Array.toList_map]
    have : ∀ (l : List Operand) (vs : List Value), l.map (ev e) = vs.map some → l.map ρ = vs := by
      intro l
      induction l with
      | nil => intro vs h; cases vs with
        | nil => rfl
        | cons => simp at h
      | cons a l ih => intro vs h; cases vs with
        | nil => simp at h
        | cons u us => simp only [List.map_cons, List.cons.injEq] at h; simp [hρ _ _ h.1, ih us h.2]
    exact this _ _ h
  have hf := hρ _ _ hx
  simp [execOp, resolve, hargs, hf, Deferred.ofValue, invoke, F.call]
theorem does_makeFunc {fn : Go.Fn} {cap : Array Operand} {vs : List Value} (h : cap.toList.map (ev e) = vs.map some) : Does P (.makeFunc fn #[] cap) ty e w (.func fn #[] vs.toArray) w := by
  intro ρ dst pos af g hρ
  have hargs : cap.map ρ = vs.toArray := by
    apply Array.ext'
    simp only [Array.toList_map]
    have : ∀ (l : List Operand) (vs : List Value), l.map (ev e) = vs.map some → l.map ρ = vs := by
      intro l
      induction l with
      | nil => intro vs h; cases vs with
        | nil => rfl
        | cons => simp at h
      | cons a l ih => intro vs h; cases vs with
        | nil => simp at h
        | cons u us => simp only [List.map_cons, List.cons.injEq] at h; simp [hρ _ _ h.1, ih us h.2]
    exact this _ _ h
  simp [execOp, hargs, Instr.makeFunc]
/-! ### slicing, indexing -/
theorem does_sliceTo {t0 : TypeId} (hu : P.underlying t = some (.slice t0)) (T : Ty P t0 d sz zv by_ ag) {A : Option Addr} {n c : Nat} {k : IntKind} {i : Int} (h : ev e x = some (.slice A n c)) (h1 : ev e y = some (.int k i)) (h0 : 0 ≤ i) (h2 : i ≤ c) :
    Does P (.slice t x none (some y) none) ty e w (.slice A i.toNat c) w := by
  intro ρ dst pos af g hρ
  have := run_sliceBound (P := P) (w := w) k i c .sliceAcap h0 h2
  cases A <;> simp [execOp, hρ _ _ h, hρ _ _ h1, Instr.sliceAt, Instr.slice, Instr.sliceBounds, run_underlying hu, T.size, this, Addr.add]
theorem does_indexS {s : ByteArray} (hu : P.underlying t = some .string) {k : IntKind} {i : Int} (h : ev e x = some (.string s)) (h1 : ev e y = some (.int k i)) (h0 : 0 ≤ i) (h2 : i < s.size) :
    Does P (.index t x y) ty e w (.int .u8 ((s.data.toList.map fun b => (b.toNat : Int)).getD i.toNat 0)) w := by
  intro ρ dst pos af g hρ
  have hlt : i.toNat < s.size := by omega
  have : s[i.toNat]? = some s[i.toNat] := by simp [hlt]
  have e2 : (s.data.toList.map fun b => (b.toNat : Int)).getD i.toNat 0 = (s[i.toNat].toNat : Int) := by
    have h3 : i.toNat < s.data.toList.length := by simpa using hlt
    simp only [List.getD_eq_getElem?_getD, List.getElem?_map, List.getElem?_eq_getElem h3]
    simp [ByteArray.getElem_eq_getElem_data]
  rw [e2]
  simp [execOp, hρ _ _ h, hρ _ _ h1, Instr.index, asIntOf, run_underlying hu, h0, this]
end
end SC
end Go.Proofs.Ytkndegjodnciaaa
