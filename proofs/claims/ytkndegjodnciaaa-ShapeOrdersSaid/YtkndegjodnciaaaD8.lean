/- slices.Insert of one number into an own row. -/
import Derived.Test.YtkndegjodnciaaaD7
set_option linter.unusedVariables false
set_option linter.unusedSimpArgs false
namespace Go.Proofs.Ytkndegjodnciaaa
namespace SC
open Go.Proofs Go.Shelf
set_option maxRecDepth 100000
theorem blk_setCell {w : World} {b : Nat} {t : TypeId} {cs : List Value} (h : Blk w b t cs) (o : Nat) (v : Value) : Blk (w.setCell ⟨b, o, none⟩ v) b t (cs.set o v) := by
  unfold Blk at *
  simp [World.setCell, Array.getElem?_modify, h]
theorem splice_cons (cs : List Value) (o : Nat) (v : Value) (r : List Value) (hl : o + (v :: r).length ≤ cs.length) : splice (cs.set o v) (o + 1) r = splice cs o (v :: r) := by
  unfold splice
  simp only [List.length_cons] at hl ⊢
  have e1 : (cs.set o v).take (o + 1) = cs.take o ++ [v] := by
    rw [List.take_set, List.take_succ_eq_append_getElem (by omega), List.set_append_right _ _ (by rw [List.length_take]; omega), List.length_take, Nat.min_eq_left (by omega)]
    simp
  have e2 : (cs.set o v).drop (o + 1 + r.length) = cs.drop (o + (r.length + 1)) := by
    rw [List.drop_set_of_lt (by omega)]
    congr 1; omega
  rw [e1, e2]
  simp
theorem splice_nil (cs : List Value) (o : Nat) : splice cs o [] = cs := by simp [splice]
theorem blk_setCells {b : Nat} {t : TypeId} : ∀ (vs : List Value) (o : Nat) (w : World) (cs : List Value), Blk w b t cs → o + vs.length ≤ cs.length → Blk (w.setCells b o vs) b t (splice cs o vs)
  | [], o, w, cs, h, _ => by rw [splice_nil]; exact h
  | v :: r, o, w, cs, h, hl => by
    have := blk_setCells r (o + 1) (w.setCell ⟨b, o, none⟩ v) (cs.set o v) (blk_setCell h o v) (by simp at hl ⊢; omega)
    rw [splice_cons cs o v r hl] at this
    exact this
theorem chg_setCells {b : Nat} : ∀ (vs : List Value) (o : Nat) (w : World), Chg w (w.setCells b o vs) (fun k => k = b)
  | [], _, w => Chg.refl _ _
  | v :: r, o, w => (Chg.setCell w ⟨b, o, none⟩ v (S := fun k => k = b) rfl).trans (chg_setCells r (o + 1) _) fun _ _ h => h
theorem own_of_blk {w : World} {g base n cap : Nat} {cs xs : List Value} (hb : Blk w g 3 cs) (hg : base ≤ g) (hc : cs.length = cap) (hn : n ≤ cap) (hm : cap ≤ maxLen) (ht : cs.take n = xs) : w.ownsRow base 3 1 (.slice (some ⟨g, 0, none⟩) n cap) n xs := by
  refine ⟨by rw [← ht, List.length_take]; omega, .inr ⟨g, cap, cs.toArray, rfl, hg, hb, hn, hm, by simp [hc], by simpa using ht⟩⟩
theorem cv_of {P : Program} {f : FuncId} {args : List Value} {w : World} {R : Value → World → Prop} {v0 : Value} {w0 : World} (h : Calls P f args.toArray w fun e w' => e = .returned v0 ∧ w' = w0) (hR : R v0 w0) : CV P f args w R :=
  Calls.mono h fun e w' he => by obtain ⟨rfl, rfl⟩ := he; exact hR
theorem one_list {v u : Value} {j : Nat} (h : [v][j]? = some u) : j = 0 ∧ u = v := by
  match j with
  | 0 => simp at h; exact ⟨rfl, h.symm⟩
  | j + 1 => simp at h
theorem nu_one (l : List Int) : ∀ u ∈ l.map nu, u.oneCell' = true := by
  intro u hu
  obtain ⟨a, _, rfl⟩ := List.mem_map.1 hu
  rfl
theorem ins_list {L A : List Value} {n i : Nat} {a : Value} (hA : A.length = n) (ht : L.take n = A) (hi : i ≤ n) (hL : n + 1 ≤ L.length) : (splice (splice L (i + 1) (A.drop i)) i [a]).take (n + 1) = A.take i ++ a :: A.drop i := by
  have h1 : splice L (i + 1) (A.drop i) = L.take (i + 1) ++ (A.drop i ++ L.drop (i + 1 + (A.drop i).length)) := by unfold splice; simp
  have hl1 : (L.take (i + 1)).length = i + 1 := by rw [List.length_take]; omega
  have h2 : (splice L (i + 1) (A.drop i)).take i = A.take i := by
    rw [h1, List.take_append_of_le_length (by omega), List.take_take, Nat.min_eq_left (by omega), ← ht, List.take_take, Nat.min_eq_left hi]
  have h3 : (splice L (i + 1) (A.drop i)).drop (i + 1) = A.drop i ++ L.drop (i + 1 + (A.drop i).length) := by
    rw [h1]
    have := List.drop_append_of_le_length (l₁ := L.take (i + 1)) (l₂ := A.drop i ++ L.drop (i + 1 + (A.drop i).length)) (i := i + 1) (by omega)
    rw [this, List.drop_of_length_le (by omega), List.nil_append]
  have h4 : splice (splice L (i + 1) (A.drop i)) i [a] = (A.take i ++ a :: A.drop i) ++ L.drop (i + 1 + (A.drop i).length) := by
    show (splice L (i + 1) (A.drop i)).take i ++ [a] ++ (splice L (i + 1) (A.drop i)).drop (i + [a].length) = _
    rw [h2, show i + [a].length = i + 1 from rfl, h3]
    simp
  rw [h4, List.take_append_of_le_length (by simp; omega), List.take_of_length_le (by simp; omega)]
theorem ins_list2 {Z A : List Value} {n i : Nat} {a : Value} (hA : A.length = n) (ht : Z.take i = A.take i) (hi : i ≤ n) (hL : n + 1 ≤ Z.length) : (splice (splice Z i [a]) (i + 1) (A.drop i)).take (n + 1) = A.take i ++ a :: A.drop i := by
  have hl : (A.take i).length = i := by rw [List.length_take]; omega
  have h1 : splice Z i [a] = (A.take i ++ [a]) ++ Z.drop (i + 1) := by unfold splice; rw [ht]; rfl
  have h2 : (splice Z i [a]).take (i + 1) = A.take i ++ [a] := by
    rw [h1, List.take_append_of_le_length (by simp [hl]), List.take_of_length_le (by simp [hl])]
  unfold splice at h2 ⊢
  rw [h2, List.take_append_of_le_length (by simp; omega), List.take_of_length_le (by simp; omega)]
  simp
theorem insert_cv {w : World} {base vb i : Nat} {v : Value} {xs : List Int} {x : Int} (hown : w.ownsRow base 3 1 v xs.length (xs.map nu)) (hi : i ≤ xs.length) (hvb : Blk w vb 3 [nu x]) (hne : v.ownBlock ≠ some vb) (hbig : (xs.length + 1) * 8 ≤ 140737488355328) (hbase : base ≤ w.heap.size) :
    CV Try.prog 142 [v, nu i, .slice (some ⟨vb, 0, none⟩) 1 1] w fun v' w' => w'.ownsRow base 3 1 v' (xs.length + 1) ((xs.take i ++ x :: xs.drop i).map nu) ∧ Chg w w' (fun k => v.ownBlock = some k) ∧ (v'.ownBlock = v.ownBlock ∨ v'.ownBlock = some w.heap.size) := by
  have hvs : ∀ j u, [nu x][j]? = some u → w.cell? ⟨vb, 0 + j, none⟩ = some u := fun j u hj => by
    rw [Nat.zero_add, hvb.cell]; exact hj
  have h1v : ∀ u ∈ [nu x], u.oneCell' = true := by simp [Value.oneCell']
  have hml : xs.length + 1 ≤ maxLen := by simp only [maxLen]; omega
  rcases hown.2 with ⟨rfl, hn⟩ | ⟨g, cap, cur, rfl, hg, hcur, hcap, hm, hsz, htk⟩
  · obtain rfl : xs = [] := List.length_eq_zero_iff.1 hn
    obtain rfl : i = 0 := by simpa using hi
    have hc := Any2.slices_Insert_int_end_grow insLay none 0 0 vb 0 1 1 [] [nu x] w (by decide) (by decide) (by decide) (by decide) rfl rfl (fun _ => rfl) (fun a ha => by cases ha) hvs h1v
    simp only [show insRen.t 3 = 3 from rfl] at hc
    refine cv_of hc ⟨?_, (Chg.drew w _).al _, .inr rfl⟩
    refine own_of_blk (cs := ([nu x] ++ (Builtin.zeroCells (Value.int .i64 0).cells (grownCap w 1 0 3 - 1)).toList)) ?_ hbase ?_ (grownCap_ge _ _ _ _) (grownCap_le_maxLen _ _ _ _ (by decide)) ?_
    · have := Blk.newA w.drew (([] ++ [nu x]).toArray ++ Builtin.zeroCells (Value.int .i64 0).cells (grownCap w (0 + 1) 0 3 - (0 + 1))) 3
      simpa using this
    · have h1 := grownCap_ge w 1 0 3
      have h2 : (Value.int .i64 0).cells.size = 1 := rfl
      simp [size_zeroCells, h2]; omega
    · simp
  · have hB : Blk w g 3 cur.toList := by simpa [Blk] using hcur
    have hcl : cur.toList.length = cap := by simp [hsz]
    have hz : ∀ n, (Builtin.zeroCells (Value.int .i64 0).cells n).toList.length = n := fun n => by
      have h2 : (Value.int .i64 0).cells.size = 1 := rfl
      rw [Array.length_toList, size_zeroCells, h2]; omega
    rw [Nat.mul_one] at htk
    have hcs : ∀ j u, (xs.map nu)[j]? = some u → w.cell? ⟨g, 0 + j, none⟩ = some u := fun j u hj => by
      rw [Nat.zero_add, hB.cell]
      have hjl : j < xs.length := by have := (List.getElem?_eq_some_iff.1 hj).1; simpa using this
      rw [← htk, List.getElem?_take_of_lt hjl] at hj
      exact hj
    have hne' : vb ≠ g := fun hh => hne (by rw [hh]; rfl)
    have hglt := hB.lt
    have hxl : (xs.map nu).length = xs.length := by simp
    have htd : ∀ j, j ≤ xs.length → (cur.toList.take j) = (xs.map nu).take j := fun j hj => by rw [← htk, List.take_take, Nat.min_eq_left hj]
    rcases Nat.lt_or_ge xs.length cap with hroom | hfull
    · have hsome : ∀ j, j < cap → (w.cell? ⟨g, j, none⟩).isSome = true := fun j hj => by rw [hB.cell]; simp [hsz, hj]
      rcases Nat.lt_or_ge i xs.length with hlt | hge
      · have hc := Any2.slices_Insert_int_shift insLay g 0 xs.length cap i vb 0 1 1 (xs.map nu) [nu x] w hlt (by decide) hroom (by simp only [maxLen] at hm; omega) hne' hxl rfl hcs (fun j hj => by rw [Nat.zero_add]; exact hsome j (by omega)) (fun j hj => hB.frozen _) hvs (nu_one xs) h1v 3 3 1 cap
          (by unfold World.shape?; have := hvb; unfold Blk at this; simp [this]) (by unfold World.shape?; simp [hcur, hsz]) (by omega) (hvb.frozen _) (hvb.frozen _)
        refine cv_of hc ⟨?_, ?_, .inl rfl⟩
        · have hB1 := blk_setCells ((xs.map nu).drop i) (0 + (i + 1)) w.drew cur.toList hB (by rw [List.length_drop, hxl, hcl]; omega)
          have hl1 : (splice cur.toList (0 + (i + 1)) ((xs.map nu).drop i)).length = cap := by unfold splice; simp [hsz]; omega
          have hB2 := blk_setCells [nu x] (0 + i) _ _ hB1 (by rw [hl1]; simp; omega)
          refine own_of_blk hB2 hg (by unfold splice at hl1 ⊢; simp at hl1 ⊢; omega) (by omega) hm ?_
          have := ins_list (a := nu x) hxl htk hi (by rw [hcl]; omega)
          simp only [Nat.zero_add, List.map_append, List.map_cons, List.map_take, List.map_drop]
          exact this
        · exact ((Chg.drew w _).trans (chg_setCells _ _ _) fun _ _ h => h).trans (chg_setCells _ _ _) (fun _ _ h => h) |>.mono fun k hk => by subst hk; rfl
      · obtain rfl : i = xs.length := by omega
        have hc := Any2.slices_Insert_int_end_room insLay g 0 xs.length cap vb 0 1 1 [nu x] w (by decide) hroom (by simp only [maxLen] at hm; omega) rfl (fun j hj => by rw [hB.cell]; simp [hsz]; omega) (fun j hj => hB.frozen _) hvs h1v
        refine cv_of hc ⟨?_, (chg_setCells _ _ _).mono fun k hk => by subst hk; rfl, .inl rfl⟩
        have hB1 := blk_setCells [nu x] (0 + xs.length) w cur.toList hB (by rw [hcl]; simp; omega)
        refine own_of_blk hB1 hg (by unfold splice; simp [hsz]; omega) (by omega) hm ?_
        unfold splice
        rw [Nat.zero_add, htd _ (Nat.le_refl _), show (xs.map nu).take xs.length = xs.map nu from List.take_of_length_le (by rw [hxl]; exact Nat.le_refl _), List.take_append_of_le_length (by simp), List.take_of_length_le (by simp)]
        simp
    · have hfe : cap = xs.length := by omega
      have hca : ∀ a : Addr, some ⟨g, 0, none⟩ = some a → ∀ j u, (xs.map nu)[j]? = some u → w.cell? (a.add j) = some u := fun a ha j u hj => by
        cases ha
        rw [add_at]
        exact hcs j u hj
      rcases Nat.lt_or_ge i xs.length with hlt | hge
      · have hc := Any2.slices_Insert_int_grow insLay g 0 xs.length cap i vb 0 1 1 (xs.map nu) [nu x] w hlt (by decide) hcap (by omega) hbig hxl rfl hcs hvs (nu_one xs) h1v
        simp only [show insRen.t 3 = 3 from rfl] at hc
        have hne2 : ∀ k, k < w.heap.size → ¬ (k = w.heap.size) := fun k hk hh => by omega
        have hB0 := Blk.newA w (((xs.map nu).take i).toArray ++ Builtin.zeroCells (Value.int .i64 0).cells (xs.length + 1 - i) ++ Builtin.zeroCells (Value.int .i64 0).cells (grownCap w (xs.length + 1) cap 3 - (xs.length + 1))) 3
        have hgc := grownCap_ge w (xs.length + 1) cap 3
        have hl0 : (((xs.map nu).take i).toArray ++ Builtin.zeroCells (Value.int .i64 0).cells (xs.length + 1 - i) ++ Builtin.zeroCells (Value.int .i64 0).cells (grownCap w (xs.length + 1) cap 3 - (xs.length + 1))).toList.length = grownCap w (xs.length + 1) cap 3 := by
          have a1 := hz (xs.length + 1 - i)
          have a2 := hz (grownCap w (xs.length + 1) cap 3 - (xs.length + 1))
          rw [Array.length_toList] at a1 a2 ⊢
          simp only [Array.size_append, a1, a2, List.size_toArray, List.length_take, hxl]
          omega
        have ht0 : (((xs.map nu).take i).toArray ++ Builtin.zeroCells (Value.int .i64 0).cells (xs.length + 1 - i) ++ Builtin.zeroCells (Value.int .i64 0).cells (grownCap w (xs.length + 1) cap 3 - (xs.length + 1))).toList.take i = (xs.map nu).take i := by
          simp only [Array.toList_append, List.append_assoc]
          rw [List.take_append_of_le_length (by simp; omega), List.take_of_length_le (by simp; omega)]
        generalize (((xs.map nu).take i).toArray ++ Builtin.zeroCells (Value.int .i64 0).cells (xs.length + 1 - i) ++ Builtin.zeroCells (Value.int .i64 0).cells (grownCap w (xs.length + 1) cap 3 - (xs.length + 1))) = arr at *
        generalize hZ : arr.toList = Z at *
        refine cv_of hc ⟨?_, ?_, .inr rfl⟩
        · have hB1 := blk_setCells [nu x] i _ _ (Blk.drew hB0) (by rw [hl0]; simp; omega)
          have hl1 : (splice Z i [nu x]).length = grownCap w (xs.length + 1) cap 3 := by unfold splice; simp [hl0]; omega
          have hB2 := blk_setCells ((xs.map nu).drop i) (i + 1) _ _ (Blk.drew hB1) (by rw [hl1, List.length_drop, hxl]; omega)
          refine own_of_blk hB2 hbase ?_ (grownCap_ge _ _ _ _) (grownCap_le_maxLen _ _ _ _ hml) ?_
          · generalize splice Z i [nu x] = Y at hl1
            unfold splice; simp [hl1]; omega
          · have := ins_list2 (a := nu x) hxl ht0 hi (by rw [hl0]; exact hgc)
            simp only [List.map_append, List.map_cons, List.map_take, List.map_drop] at this ⊢
            exact this
        · exact ((((Chg.alloc w _ none_).dr.trans (chg_setCells _ _ _) fun k hk hh => hne2 k hk hh).dr).trans (chg_setCells _ _ _) fun k hk hh => hne2 k hk hh).any
      · obtain rfl : i = xs.length := by omega
        have hc := Any2.slices_Insert_int_end_grow insLay (some ⟨g, 0, none⟩) xs.length cap vb 0 1 1 (xs.map nu) [nu x] w (by decide) hcap (by omega) hbig hxl rfl (fun hh => by cases hh) hca hvs h1v
        simp only [show insRen.t 3 = 3 from rfl] at hc
        refine cv_of hc ⟨?_, (Chg.drew w _).al _, .inr rfl⟩
        refine own_of_blk (cs := (xs.map nu ++ [nu x]) ++ (Builtin.zeroCells (Value.int .i64 0).cells (grownCap w (xs.length + 1) cap 3 - (xs.length + 1))).toList) ?_ hbase ?_ (grownCap_ge _ _ _ _) (grownCap_le_maxLen _ _ _ _ hml) ?_
        · have := Blk.newA w.drew ((xs.map nu ++ [nu x]).toArray ++ Builtin.zeroCells (Value.int .i64 0).cells (grownCap w (xs.length + 1) cap 3 - (xs.length + 1))) 3
          simpa using this
        · have h1 := grownCap_ge w (xs.length + 1) cap 3
          rw [List.length_append, hz]; simp; omega
        · rw [List.take_append_of_le_length (by simp), List.take_of_length_le (by simp)]
          simp
end SC
end Go.Proofs.Ytkndegjodnciaaa
