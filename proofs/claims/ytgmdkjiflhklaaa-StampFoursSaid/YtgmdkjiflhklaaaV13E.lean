/- V13E: equality of structs and arrays. -/
import Derived.Test.YtgmdkjiflhklaaaV13
import Derived.DeepKeys
namespace Go.Vm
open Go

def leafB : TK → V → Value → Bool
  | .bool, .bool a, .bool b => a == b
  | .int k, .int k1 a, .int k2 b => decide (k1 = k ∧ k2 = k ∧ a = b)
  | .str, .str a, .string b => decide (a = b)
  | _, _, _ => false

def Agree (ks : List TK) (as : List V) (xs : List Value) : Prop := as.length = ks.length ∧ xs.length = ks.length ∧ ∀ (j : Nat) (k : TK) (a : V) (x : Value), ks[j]? = some k → as[j]? = some a → xs[j]? = some x → leafB k a x = true

theorem Agree.drop {ks ks' : List TK} {as : List V} {xs : List Value} (h : Agree (ks ++ ks') as xs) : Agree ks' (as.drop ks.length) (xs.drop ks.length) := by
  obtain ⟨h1, h2, h3⟩ := h
  refine ⟨by simp [h1], by simp [h2], fun j k a x hk ha hx => ?_⟩
  rw [List.getElem?_drop] at ha hx
  exact h3 (ks.length + j) k a x (by rw [List.getElem?_append_right (by omega)]; simpa using hk) ha hx
theorem Agree.take {ks ks' : List TK} {as : List V} {xs : List Value} (h : Agree (ks ++ ks') as xs) : Agree ks (as.take ks.length) (xs.take ks.length) := by
  obtain ⟨h1, h2, h3⟩ := h
  refine ⟨by simp [h1], by simp [h2], fun j k a x hk ha hx => ?_⟩
  have hj : j < ks.length := (List.getElem?_eq_some_iff.1 hk).1
  rw [List.getElem?_take_of_lt hj] at ha hx
  exact h3 j k a x (by rw [List.getElem?_append_left hj]; exact hk) ha hx

theorem cellsEqv_split : ∀ (n : Nat) (as bs : List V), as.length = bs.length → cellsEqv as bs = (cellsEqv (as.take n) (bs.take n) && cellsEqv (as.drop n) (bs.drop n))
  | 0, as, bs, _ => by simp [cellsEqv]
  | n + 1, [], [], _ => by simp [cellsEqv]
  | n + 1, a :: as, b :: bs, h => by
    simp only [List.take_succ_cons, List.drop_succ_cons, cellsEqv]
    rw [cellsEqv_split n as bs (by simpa using h), Bool.and_assoc]
  | n + 1, [], b :: bs, h => by simp at h
  | n + 1, a :: as, [], h => by simp at h

section
variable {P : Program} (w : World)

theorem run_part_leaves {d : Nat} {e : TypeId} {ks : List TK} (hl : leavesP P d e = some ks) (hsz : P.cellsOf e = ks.length) {off : Nat} {xs : Array Value} {as : List V}
    (ha : Agree ks as ((xs.toList.drop off).take ks.length)) :
    ∃ a, (part e xs off).run P w = .ok a w ∧ a.formed P e = true ∧ a.cells.toList = (xs.toList.drop off).take ks.length := by
  cases d with
  | zero => simp [leavesP] at hl
  | succ d =>
    cases hu : P.underlying e with
    | none => simp [leavesP, hu] at hl
    | some kd =>
      obtain ⟨i, hi⟩ := info_of_underlying hu
      have agg : (∃ n e', kd = .array n e') ∨ (∃ fs, kd = .struct fs) → ∃ a, (part e xs off).run P w = .ok a w ∧ a.formed P e = true ∧ a.cells.toList = (xs.toList.drop off).take ks.length := by
        intro hk
        have hlen : ((xs.toList.drop off).take ks.length).length = ks.length := ha.2.1
        have hx : (xs.extract off (off + P.cellsOf e)).toList = (xs.toList.drop off).take ks.length := by
          rw [Array.toList_extract, hsz]
          simp [List.extract]
        refine ⟨.agg (xs.extract off (off + P.cellsOf e)), ?_, ?_, hx⟩
        · rcases hk with ⟨n, e', rfl⟩ | ⟨fs, rfl⟩ <;> simp [part, isAgg, run_underlying hu, run_sizeOf w hi]
        · have hs : (xs.extract off (off + P.cellsOf e)).size = P.cellsOf e := by rw [← Array.length_toList, hx, hlen, hsz]
          rcases hk with ⟨n, e', rfl⟩ | ⟨fs, rfl⟩ <;> simp [Value.formed, hu, hs]
      have plain : ∀ k, ks = [k] → (∀ v a, leafB k a v = true → v.cells.toList = [v] ∧ v.formed P e = true) → (∀ w, (isAgg e).run P w = .ok false w) → ∃ a, (part e xs off).run P w = .ok a w ∧ a.formed P e = true ∧ a.cells.toList = (xs.toList.drop off).take ks.length := by
        intro k hk hform hagg
        subst hk
        obtain ⟨h1, h2, h3⟩ := ha
        obtain ⟨a, rfl⟩ := List.length_eq_one_iff.1 (by simpa using h1)
        obtain ⟨x, hm⟩ : ∃ x, (xs.toList.drop off).take 1 = [x] := List.length_eq_one_iff.1 h2
        have hx := h3 0 k a x rfl rfl (by show ((xs.toList.drop off).take 1)[0]? = _; rw [hm]; rfl)
        obtain ⟨g1, g2⟩ := hform x a hx
        have hget : xs[off]? = some x := by
          have h0 : ((xs.toList.drop off).take 1)[0]? = some x := by rw [hm]; rfl
          rw [List.getElem?_take_of_lt (by omega), List.getElem?_drop] at h0
          simpa using h0
        refine ⟨x, by simp [part, hagg, hget], g2, ?_⟩
        rw [g1]; exact hm.symm
      cases kd
      case bool =>
        simp only [leavesP, hu] at hl
        injection hl with hl
        exact plain _ hl.symm (fun v a h => by cases a <;> cases v <;> simp [leafB] at h <;> exact ⟨rfl, by simp [Value.formed, hu]⟩) (fun w => by simp [isAgg, run_underlying hu])
      case int q =>
        simp only [leavesP, hu] at hl
        injection hl with hl
        exact plain _ hl.symm (fun v a h => by cases a <;> cases v <;> simp [leafB] at h <;> exact ⟨rfl, by simp [Value.formed, hu]⟩) (fun w => by simp [isAgg, run_underlying hu])
      case string =>
        simp only [leavesP, hu] at hl
        injection hl with hl
        exact plain _ hl.symm (fun v a h => by cases a <;> cases v <;> simp [leafB] at h <;> exact ⟨rfl, by simp [Value.formed, hu]⟩) (fun w => by simp [isAgg, run_underlying hu])
      case array n e' => exact agg (Or.inl ⟨n, e', rfl⟩)
      case struct fs => exact agg (Or.inr ⟨fs, rfl⟩)
      all_goals (simp [leavesP, hu] at hl; done)

def EqOk (P : Program) (dd : Nat) (d : Nat) (e : TypeId) : Prop :=
  ∀ (w : World) (ks : List TK) (as bs : List V) (a b : Value), leavesP P d e = some ks → Agree ks as a.cells.toList → Agree ks bs b.cells.toList → a.formed P e = true → b.formed P e = true →
    (Op.equalIn dd e a b).run P w = .ok (cellsEqv as bs) w

theorem eq_fields {dd d : Nat} (xs ys : Array Value) (IH : ∀ e, EqOk P dd d e) : ∀ (fs : List Field) (o : Nat) (ks : List TK) (as bs : List V), leavesF (leavesP P d) P.cellsOf o fs = some ks →
    Agree ks as (xs.toList.drop o) → Agree ks bs (ys.toList.drop o) → (Op.eqFields dd xs ys fs).run P w = .ok (cellsEqv as bs) w
  | [], o, ks, as, bs, hl, ha, hb => by
    simp only [leavesF] at hl; injection hl with hl; subst hl
    obtain rfl : as = [] := List.eq_nil_of_length_eq_zero ha.1
    simp [Op.eqFields, cellsEqv]
  | f :: fs, o, ks, as, bs, hl, ha, hb => by
    simp only [leavesF] at hl
    cases hk : leavesP P d f.type with
    | none => simp [hk] at hl
    | some k1 =>
      simp only [hk] at hl
      split at hl
      · rename_i hc
        obtain ⟨c1, c2, c3⟩ := hc
        rw [Option.map_eq_some_iff] at hl
        obtain ⟨k2, hl2, rfl⟩ := hl
        subst c1
        have a1 := ha.take
        have b1 := hb.take
        have a2 := ha.drop
        have b2 := hb.drop
        obtain ⟨a, p1, p2, p3⟩ := run_part_leaves w hk c3 a1
        obtain ⟨b, q1, q2, q3⟩ := run_part_leaves w hk c3 b1
        have he := IH f.type w k1 _ _ a b hk (by rw [p3]; exact a1) (by rw [q3]; exact b1) p2 q2
        have hrest := eq_fields xs ys IH fs _ k2 _ _ hl2 (by rw [List.drop_drop] at a2; exact a2) (by rw [List.drop_drop] at b2; exact b2)
        simp only [Op.eqFields, c2, ne_eq, not_false_eq_true, if_true, Sem.run_bind, p1, q1, he, Result.andThen_ok]
        rw [cellsEqv_split k1.length as bs (by rw [ha.1, hb.1])]
        cases hx : cellsEqv (as.take k1.length) (bs.take k1.length)
        · simp
        · simpa using hrest
      · cases hl

theorem eq_items {dd d : Nat} {e : TypeId} {k1 : List TK} (hk : leavesP P d e = some k1) (hs : P.cellsOf e = k1.length) (xs ys : Array Value) (IH : EqOk P dd d e) : ∀ (n s : Nat) (as bs : List V),
    Agree (List.replicate n k1).flatten as (xs.toList.drop (s * k1.length)) → Agree (List.replicate n k1).flatten bs (ys.toList.drop (s * k1.length)) →
      (Op.eqItems dd e (P.cellsOf e) xs ys (List.range' s n)).run P w = .ok (cellsEqv as bs) w
  | 0, s, as, bs, ha, hb => by
    obtain rfl : as = [] := List.eq_nil_of_length_eq_zero (by simpa using ha.1)
    simp [Op.eqItems, cellsEqv]
  | n + 1, s, as, bs, ha, hb => by
    simp only [List.replicate_succ, List.flatten_cons] at ha hb
    have a1 := ha.take
    have b1 := hb.take
    have a2 := ha.drop
    have b2 := hb.drop
    obtain ⟨a, p1, p2, p3⟩ := run_part_leaves w hk hs a1
    obtain ⟨b, q1, q2, q3⟩ := run_part_leaves w hk hs b1
    have he := IH w k1 _ _ a b hk (by rw [p3]; exact a1) (by rw [q3]; exact b1) p2 q2
    have hrest := eq_items hk hs xs ys IH n (s + 1) _ _ (by rw [List.drop_drop] at a2; rw [Nat.succ_mul]; exact a2) (by rw [List.drop_drop] at b2; rw [Nat.succ_mul]; exact b2)
    rw [hs] at hrest ⊢
    simp only [List.range'_succ, Op.eqItems, Sem.run_bind, p1, q1, he, Result.andThen_ok]
    rw [cellsEqv_split k1.length as bs (by rw [ha.1, hb.1])]
    cases hx : cellsEqv (as.take k1.length) (bs.take k1.length)
    · simp
    · simpa using hrest

theorem eq_ok (dd : Nat) : ∀ (d : Nat) (t : TypeId), EqOk P (dd + d) d t
  | 0, t => fun w ks as bs a b hl => by simp [leavesP] at hl
  | d + 1, t => fun w ks as bs a b hl ha hb fa fb => by
    simp only [leavesP] at hl
    cases hu : P.underlying t with
    | none => simp [hu] at hl
    | some kd =>
      have one : ∀ k, ks = [k] → ∃ x y u v, as = [x] ∧ bs = [y] ∧ a.cells.toList = [u] ∧ b.cells.toList = [v] ∧ leafB k x u = true ∧ leafB k y v = true := by
        rintro k rfl
        obtain ⟨x, rfl⟩ := List.length_eq_one_iff.1 ha.1
        obtain ⟨y, rfl⟩ := List.length_eq_one_iff.1 hb.1
        obtain ⟨u, hu'⟩ := List.length_eq_one_iff.1 ha.2.1
        obtain ⟨v, hv'⟩ := List.length_eq_one_iff.1 hb.2.1
        exact ⟨x, y, u, v, rfl, rfl, hu', hv', ha.2.2 0 k x u rfl rfl (by rw [hu']; rfl), hb.2.2 0 k y v rfl rfl (by rw [hv']; rfl)⟩
      have self : ∀ (c u : Value), c.formed P t = true → c.cells.toList = [u] → (match kd with | .struct _ => False | .array _ _ => False | _ => True) → c = u := by
        intro c u hf hc hk
        cases c <;> first
          | (simpa [Value.cells] using hc)
          | (cases kd <;> simp [Value.formed, hu] at hf hk)
      rw [show dd + (d + 1) = (dd + d) + 1 from rfl]
      cases kd <;> simp only [hu] at hl <;> try (cases hl; done)
      case bool =>
        injection hl with hl
        obtain ⟨x, y, u, v, rfl, rfl, e1, e2, l1, l2⟩ := one _ hl.symm
        obtain rfl := self a u fa e1 trivial
        obtain rfl := self b v fb e2 trivial
        cases x <;> cases a <;> simp [leafB] at l1
        cases y <;> cases b <;> simp [leafB] at l2
        subst l1; subst l2
        rw [run_equalIn_bool' w _ t _ _ hu]
        simp [cellsEqv, cellEqv]
      case int k =>
        injection hl with hl
        obtain ⟨x, y, u, v, rfl, rfl, e1, e2, l1, l2⟩ := one _ hl.symm
        obtain rfl := self a u fa e1 trivial
        obtain rfl := self b v fb e2 trivial
        cases x <;> cases a <;> simp [leafB] at l1
        cases y <;> cases b <;> simp [leafB] at l2
        obtain ⟨rfl, rfl, rfl⟩ := l1
        obtain ⟨rfl, rfl, rfl⟩ := l2
        rw [run_equalIn_int w _ t _ _ _ _ hu]
        simp [cellsEqv, cellEqv]
      case string =>
        injection hl with hl
        obtain ⟨x, y, u, v, rfl, rfl, e1, e2, l1, l2⟩ := one _ hl.symm
        obtain rfl := self a u fa e1 trivial
        obtain rfl := self b v fb e2 trivial
        cases x <;> cases a <;> simp [leafB] at l1
        cases y <;> cases b <;> simp [leafB] at l2
        subst l1; subst l2
        rw [run_equalIn_string w _ t _ _ hu]
        simp [cellsEqv, cellEqv]
      case array n e =>
        cases hk : leavesP P d e with
        | none => simp [hk] at hl
        | some k1 =>
          simp only [hk] at hl
          split at hl
          · rename_i hs
            injection hl with hl; subst hl
            cases a <;> simp only [Value.formed, hu, Bool.false_eq_true] at fa
            cases b <;> simp only [Value.formed, hu, Bool.false_eq_true] at fb
            rename_i xs ys
            obtain ⟨i, hi⟩ : ∃ i, P.info? e = some i := by
              cases hue : P.underlying e with
              | none => cases d <;> simp [leavesP, hue] at hk
              | some _ => exact info_of_underlying hue
            rw [run_equalIn_array w (dd + d) xs ys hu hi, List.range_eq_range']
            exact eq_items w hk hs xs ys (eq_ok dd d e) n 0 as bs (by simpa [Value.cells] using ha) (by simpa [Value.cells] using hb)
          · cases hl
      case struct fs =>
        split at hl
        · cases hl
        · rename_i hst
          cases a <;> simp only [Value.formed, hu, Bool.false_eq_true] at fa
          cases b <;> simp only [Value.formed, hu, Bool.false_eq_true] at fb
          rename_i xs ys
          have hfs : P.fieldsOf t = fs := by simp [Program.fieldsOf, hu]
          rw [run_equalIn_struct w (dd + d) t xs ys (by rw [hfs]; exact hu) (by simpa using hst), hfs]
          exact eq_fields w xs ys (fun e => eq_ok dd d e) fs.toList 0 ks as bs hl (by simpa [Value.cells] using ha) (by simpa [Value.cells] using hb)

end
end Go.Vm
