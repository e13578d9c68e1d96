/- The calculus, fifth part: tests that part the ways. -/
import Derived.Test.YtkndegjodnciaaaA4
set_option linter.unusedVariables false
namespace Go.Proofs.Ytkndegjodnciaaa
namespace SC
section
variable {P : Program} {n : Nat} {all rest : List Oper} {K : Env → World → Prop} {e : Env} {w : World} {d : Option Tmp} {ty : TypeId} {pos : String} {af : Array Edge} {g : Option (Nat × Bool)} {t t' : TypeId} {x y : Operand} {k : IntKind} {a b : Int}
theorem WL_lss (hg : Wants all e g true) (hd : slotOk n d = true) (h : ev e x = some (.int k a)) (h1 : ev e y = some (.int k b)) (ht : a < b → WL P n all K rest (push d (.bool true) e) w) (hf : ¬ (a < b) → WL P n all K rest (push d (.bool false) e) w) :
    WL P n all K (⟨d, .binOp .lss t x y t', ty, pos, af, g⟩ :: rest) e w := by
  by_cases hc : a < b
  · exact WL_does hg hd (does_lss h h1 true (decide_eq_true hc)) (ht hc)
  · exact WL_does hg hd (does_lss h h1 false (decide_eq_false hc)) (hf hc)
theorem WO_lss {S : World → Prop} {r : List (Nat × Bool)} {i : Nat} (hg : Wants all e g true) (hd : slotOk n d = true) (hS : S w) (h : ev e x = some (.int k a)) (h1 : ev e y = some (.int k b)) (ht : a < b → WS P n all S K r (push d (.bool true) e) w) (hf : ¬ (a < b) → WS P n all S K r (push d (.bool false) e) w) :
    WO P n all S K i true r ⟨d, .binOp .lss t x y t', ty, pos, af, g⟩ e w := by
  by_cases hc : a < b
  · exact WO_quiet hg hd hS (fun _ _ => does_lss h h1 true (decide_eq_true hc)) (ht hc)
  · exact WO_quiet hg hd hS (fun _ _ => does_lss h h1 false (decide_eq_false hc)) (hf hc)
theorem WL_leq (hg : Wants all e g true) (hd : slotOk n d = true) (h : ev e x = some (.int k a)) (h1 : ev e y = some (.int k b)) (ht : a ≤ b → WL P n all K rest (push d (.bool true) e) w) (hf : ¬ (a ≤ b) → WL P n all K rest (push d (.bool false) e) w) :
    WL P n all K (⟨d, .binOp .leq t x y t', ty, pos, af, g⟩ :: rest) e w := by
  by_cases hc : a ≤ b
  · exact WL_does hg hd (does_leq h h1 true (decide_eq_true hc)) (ht hc)
  · exact WL_does hg hd (does_leq h h1 false (decide_eq_false hc)) (hf hc)
theorem WO_leq {S : World → Prop} {r : List (Nat × Bool)} {i : Nat} (hg : Wants all e g true) (hd : slotOk n d = true) (hS : S w) (h : ev e x = some (.int k a)) (h1 : ev e y = some (.int k b)) (ht : a ≤ b → WS P n all S K r (push d (.bool true) e) w) (hf : ¬ (a ≤ b) → WS P n all S K r (push d (.bool false) e) w) :
    WO P n all S K i true r ⟨d, .binOp .leq t x y t', ty, pos, af, g⟩ e w := by
  by_cases hc : a ≤ b
  · exact WO_quiet hg hd hS (fun _ _ => does_leq h h1 true (decide_eq_true hc)) (ht hc)
  · exact WO_quiet hg hd hS (fun _ _ => does_leq h h1 false (decide_eq_false hc)) (hf hc)
theorem WL_gtr (hg : Wants all e g true) (hd : slotOk n d = true) (h : ev e x = some (.int k a)) (h1 : ev e y = some (.int k b)) (ht : b < a → WL P n all K rest (push d (.bool true) e) w) (hf : ¬ (b < a) → WL P n all K rest (push d (.bool false) e) w) :
    WL P n all K (⟨d, .binOp .gtr t x y t', ty, pos, af, g⟩ :: rest) e w := by
  by_cases hc : b < a
  · exact WL_does hg hd (does_gtr h h1 true (decide_eq_true hc)) (ht hc)
  · exact WL_does hg hd (does_gtr h h1 false (decide_eq_false hc)) (hf hc)
theorem WO_gtr {S : World → Prop} {r : List (Nat × Bool)} {i : Nat} (hg : Wants all e g true) (hd : slotOk n d = true) (hS : S w) (h : ev e x = some (.int k a)) (h1 : ev e y = some (.int k b)) (ht : b < a → WS P n all S K r (push d (.bool true) e) w) (hf : ¬ (b < a) → WS P n all S K r (push d (.bool false) e) w) :
    WO P n all S K i true r ⟨d, .binOp .gtr t x y t', ty, pos, af, g⟩ e w := by
  by_cases hc : b < a
  · exact WO_quiet hg hd hS (fun _ _ => does_gtr h h1 true (decide_eq_true hc)) (ht hc)
  · exact WO_quiet hg hd hS (fun _ _ => does_gtr h h1 false (decide_eq_false hc)) (hf hc)
theorem WL_geq (hg : Wants all e g true) (hd : slotOk n d = true) (h : ev e x = some (.int k a)) (h1 : ev e y = some (.int k b)) (ht : b ≤ a → WL P n all K rest (push d (.bool true) e) w) (hf : ¬ (b ≤ a) → WL P n all K rest (push d (.bool false) e) w) :
    WL P n all K (⟨d, .binOp .geq t x y t', ty, pos, af, g⟩ :: rest) e w := by
  by_cases hc : b ≤ a
  · exact WL_does hg hd (does_geq h h1 true (decide_eq_true hc)) (ht hc)
  · exact WL_does hg hd (does_geq h h1 false (decide_eq_false hc)) (hf hc)
theorem WO_geq {S : World → Prop} {r : List (Nat × Bool)} {i : Nat} (hg : Wants all e g true) (hd : slotOk n d = true) (hS : S w) (h : ev e x = some (.int k a)) (h1 : ev e y = some (.int k b)) (ht : b ≤ a → WS P n all S K r (push d (.bool true) e) w) (hf : ¬ (b ≤ a) → WS P n all S K r (push d (.bool false) e) w) :
    WO P n all S K i true r ⟨d, .binOp .geq t x y t', ty, pos, af, g⟩ e w := by
  by_cases hc : b ≤ a
  · exact WO_quiet hg hd hS (fun _ _ => does_geq h h1 true (decide_eq_true hc)) (ht hc)
  · exact WO_quiet hg hd hS (fun _ _ => does_geq h h1 false (decide_eq_false hc)) (hf hc)
theorem WL_eql (hg : Wants all e g true) (hd : slotOk n d = true) (h : ev e x = some (.int k a)) (h1 : ev e y = some (.int k b)) (ht : a = b → WL P n all K rest (push d (.bool true) e) w) (hf : ¬ (a = b) → WL P n all K rest (push d (.bool false) e) w) :
    WL P n all K (⟨d, .binOp .eql t x y t', ty, pos, af, g⟩ :: rest) e w := by
  by_cases hc : a = b
  · exact WL_does hg hd (does_eql h h1 true (decide_eq_true hc)) (ht hc)
  · exact WL_does hg hd (does_eql h h1 false (decide_eq_false hc)) (hf hc)
theorem WO_eql {S : World → Prop} {r : List (Nat × Bool)} {i : Nat} (hg : Wants all e g true) (hd : slotOk n d = true) (hS : S w) (h : ev e x = some (.int k a)) (h1 : ev e y = some (.int k b)) (ht : a = b → WS P n all S K r (push d (.bool true) e) w) (hf : ¬ (a = b) → WS P n all S K r (push d (.bool false) e) w) :
    WO P n all S K i true r ⟨d, .binOp .eql t x y t', ty, pos, af, g⟩ e w := by
  by_cases hc : a = b
  · exact WO_quiet hg hd hS (fun _ _ => does_eql h h1 true (decide_eq_true hc)) (ht hc)
  · exact WO_quiet hg hd hS (fun _ _ => does_eql h h1 false (decide_eq_false hc)) (hf hc)
theorem WL_neq (hg : Wants all e g true) (hd : slotOk n d = true) (h : ev e x = some (.int k a)) (h1 : ev e y = some (.int k b)) (ht : a ≠ b → WL P n all K rest (push d (.bool true) e) w) (hf : ¬ (a ≠ b) → WL P n all K rest (push d (.bool false) e) w) :
    WL P n all K (⟨d, .binOp .neq t x y t', ty, pos, af, g⟩ :: rest) e w := by
  by_cases hc : a ≠ b
  · exact WL_does hg hd (does_neq h h1 true (decide_eq_true hc)) (ht hc)
  · exact WL_does hg hd (does_neq h h1 false (decide_eq_false hc)) (hf hc)
theorem WO_neq {S : World → Prop} {r : List (Nat × Bool)} {i : Nat} (hg : Wants all e g true) (hd : slotOk n d = true) (hS : S w) (h : ev e x = some (.int k a)) (h1 : ev e y = some (.int k b)) (ht : a ≠ b → WS P n all S K r (push d (.bool true) e) w) (hf : ¬ (a ≠ b) → WS P n all S K r (push d (.bool false) e) w) :
    WO P n all S K i true r ⟨d, .binOp .neq t x y t', ty, pos, af, g⟩ e w := by
  by_cases hc : a ≠ b
  · exact WO_quiet hg hd hS (fun _ _ => does_neq h h1 true (decide_eq_true hc)) (ht hc)
  · exact WO_quiet hg hd hS (fun _ _ => does_neq h h1 false (decide_eq_false hc)) (hf hc)
theorem WL_eqS {a b : ByteArray} (hg : Wants all e g true) (hd : slotOk n d = true) (h : ev e x = some (.string a)) (h1 : ev e y = some (.string b)) (ht : a = b → WL P n all K rest (push d (.bool true) e) w) (hf : ¬ (a = b) → WL P n all K rest (push d (.bool false) e) w) :
    WL P n all K (⟨d, .binOp .eql t x y t', ty, pos, af, g⟩ :: rest) e w := by
  by_cases hc : a = b
  · exact WL_does hg hd (does_eqS h h1 true (by subst hc; simp)) (ht hc)
  · refine WL_does hg hd (does_eqS h h1 false ?_) (hf hc)
    rw [beq_eq_false_iff_ne]
    intro hh
    exact hc (by rw [ByteArray.toList_eq, ByteArray.toList_eq] at hh; exact ByteArray.ext (Array.ext' hh))
end
end SC
end Go.Proofs.Ytkndegjodnciaaa
