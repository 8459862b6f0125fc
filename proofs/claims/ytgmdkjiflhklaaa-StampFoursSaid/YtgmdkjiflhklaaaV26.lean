/- V26: what an operation reads. -/
import Derived.Test.YtgmdkjiflhklaaaV19
namespace Go.Vm
open Go

/-- The same to all who look. -/
def Eqv (σ τ : St) : Prop := (∀ t, get σ.env t = get τ.env t) ∧ σ.heap = τ.heap
theorem Eqv.refl (σ : St) : Eqv σ σ := ⟨fun _ => rfl, rfl⟩
theorem Eqv.symm {σ τ : St} (h : Eqv σ τ) : Eqv τ σ := ⟨fun t => (h.1 t).symm, h.2.symm⟩
theorem Eqv.trans {σ τ υ : St} (h : Eqv σ τ) (k : Eqv τ υ) : Eqv σ υ := ⟨fun t => (h.1 t).trans (k.1 t), h.2.trans k.2⟩
theorem Eqv.setPlace {σ τ : St} (h : Eqv σ τ) (p : Place) (v : V) : Eqv (Vm.setPlace σ p v) (Vm.setPlace τ p v) := by
  cases p with
  | slot t =>
    refine ⟨fun u => ?_, h.2⟩
    simp only [Vm.setPlace, get]
    split
    · rfl
    · rw [get_kill, get_kill, h.1 u]
  | cell id off =>
    refine ⟨fun u => ?_, ?_⟩
    · simp only [Vm.setPlace]
      rw [get_kill, get_kill, h.1 u]
    · simp only [Vm.setPlace, h.2]
theorem Eqv.setPlaces : ∀ (ps : List (Place × V)) {σ τ : St}, Eqv σ τ → Eqv (Vm.setPlaces σ ps) (Vm.setPlaces τ ps)
  | [], _, _, h => h
  | (p, v) :: ps, _, _, h => Eqv.setPlaces ps (h.setPlace p v)
theorem Eqv.setMem {σ τ : St} (h : Eqv σ τ) (m : HE) : Eqv (Vm.setMem σ m) (Vm.setMem τ m) := by
  cases m with
  | keep => exact h
  | set id off cs =>
    refine ⟨fun t => ?_, by simp only [Vm.setMem, h.2]⟩
    simp only [Vm.setMem]
    rw [get_map (killIn id off cs.length) rfl, get_map (killIn id off cs.length) rfl, h.1 t]
  | init id cs => exact ⟨h.1, by simp only [Vm.setMem, h.2]⟩
  | all H =>
    refine ⟨fun t => ?_, rfl⟩
    simp only [Vm.setMem]
    rw [get_map killCell rfl, get_map killCell rfl, h.1 t]
  | put ks H =>
    refine ⟨fun t => ?_, by simp only [Vm.setMem, h.2]⟩
    simp only [Vm.setMem]
    rw [get_map (killCellsIn ks) rfl, get_map (killCellsIn ks) rfl, h.1 t]
theorem Eqv.put {σ τ : St} (h : Eqv σ τ) (d : Option Nat) (v : V) : Eqv (Vm.put σ d v) (Vm.put τ d v) := by
  cases d with
  | none => exact h
  | some d =>
    refine ⟨fun u => ?_, h.2⟩
    simp only [Vm.put, get]
    split
    · rfl
    · rw [get_kill, get_kill, h.1 u]
theorem Eqv.apply {σ τ : St} (h : Eqv σ τ) (d : Option Nat) (e : Eff) : Eqv (Vm.apply σ d e) (Vm.apply τ d e) :=
  (((h.setPlaces e.places).setMem e.mem)).put d e.val
theorem Eqv.look {σ τ : St} (h : Eqv σ τ) (p : Place) : Vm.look σ p = Vm.look τ p := by
  cases p with
  | slot t => exact h.1 t
  | cell id off => simp only [Vm.look, h.2]
theorem Eqv.opd {σ τ : St} (h : Eqv σ τ) (x : Operand) : Vm.opd σ.env x = Vm.opd τ.env x := by cases x <;> first | rfl | exact h.1 _

section
variable {σ τ : St}
def placesB (id : Nat) : List (Place × V) → Option (List V) → Option (List V)
  | [], c => c
  | (.cell i off, v) :: ps, c => placesB id ps (if i = id then c.map (·.set off v) else c)
  | (.slot _, _) :: ps, c => placesB id ps c
theorem bcells_setPlace (p : Place) (v : V) (id : Nat) : bcells (setPlace σ p v).heap id = placesB id [(p, v)] (bcells σ.heap id) ∧ (setPlace σ p v).heap.length = σ.heap.length := by
  cases p with
  | slot t => exact ⟨rfl, rfl⟩
  | cell i off =>
    simp only [setPlace, placesB]
    cases hc : bcells σ.heap i with
    | none =>
      refine ⟨?_, rfl⟩
      simp only
      by_cases h : i = id
      · subst h; rw [hc]; simp
      · rw [if_neg h]
    | some cs =>
      refine ⟨?_, by simp⟩
      simp only
      rw [bcells_set (bcells_lt hc)]
      by_cases h : i = id
      · subst h; rw [hc]; simp
      · rw [if_neg (Ne.symm h), if_neg h]

theorem placesB_cons (id : Nat) (x : Place × V) (ps : List (Place × V)) (c : Option (List V)) : placesB id (x :: ps) c = placesB id ps (placesB id [x] c) := by
  obtain ⟨p, v⟩ := x
  cases p <;> rfl

theorem bcells_setPlaces : ∀ (ps : List (Place × V)) (σ : St) (id : Nat), bcells (setPlaces σ ps).heap id = placesB id ps (bcells σ.heap id) ∧ (setPlaces σ ps).heap.length = σ.heap.length
  | [], σ, id => ⟨rfl, rfl⟩
  | x :: ps, σ, id => by
    obtain ⟨h1, h2⟩ := bcells_setPlaces ps (setPlace σ x.1 x.2) id
    obtain ⟨g1, g2⟩ := bcells_setPlace (σ := σ) x.1 x.2 id
    exact ⟨by rw [placesB_cons]; simp only [setPlaces]; rw [h1, g1], by simp only [setPlaces]; rw [h2, g2]⟩

theorem heap_ext {H1 H2 : Heap} (hl : H1.length = H2.length) (h : ∀ id, bcells H1 id = bcells H2 id) : H1 = H2 := by
  apply List.ext_getElem hl
  intro i h1 h2
  have := h i
  unfold bcells at this
  rw [List.getElem?_eq_getElem h1, List.getElem?_eq_getElem h2] at this
  cases hx : H1[i] <;> cases hy : H2[i] <;> simp [hx, hy] at this
  · rfl
  · rw [this]


theorem more_sub (H : Heap) (l : List Nat) : ∀ i ∈ l, i ∈ more H l := by
  have key : ∀ (m acc : List Nat), ∀ i ∈ acc, i ∈ m.foldl (fun acc i => if acc.contains i then acc else acc ++ [i]) acc := by
    intro m
    induction m with
    | nil => intro acc i hi; exact hi
    | cons x m ih =>
      intro acc i hi
      simp only [List.foldl_cons]
      refine ih _ i ?_
      split
      · exact hi
      · simp [hi]
  exact fun i hi => key _ l i hi
theorem reach_sub (H : Heap) : ∀ (n : Nat) (l : List Nat), ∀ i ∈ l, i ∈ reach H n l
  | 0, _, i, hi => hi
  | n + 1, l, i, hi => reach_sub H n (more H l) i (more_sub H l i hi)
theorem reach_same {H K : Heap} : ∀ (n : Nat) (l : List Nat), (∀ i ∈ reach H n l, bcells H i = bcells K i) → reach K n l = reach H n l
  | 0, _, _ => rfl
  | n + 1, l, h => by
    have e : more K l = more H l := by
      unfold more
      have : l.flatMap (cellIds K) = l.flatMap (cellIds H) := by
        simp only [List.flatMap]
        congr 1
        refine List.map_congr_left fun i hi => ?_
        unfold cellIds
        rw [h i (reach_sub H n _ i (more_sub H l i hi))]
      rw [this]
    simp only [reach, e]
    exact reach_same n _ h
theorem maskH_same {H K : Heap} {ks : List Nat} (hl : H.length = K.length) (h : ∀ i, ks.contains i = true → bcells H i = bcells K i) : maskH ks K = maskH ks H := by
  refine heap_ext (by rw [maskH_length, maskH_length, hl]) fun id => ?_
  rw [bcells_mask, bcells_mask]
  split
  · rename_i hk; rw [h id hk]
  · rfl
theorem closedK_same {H K : Heap} {ks : List Nat} (h : ∀ i, ks.contains i = true → bcells H i = bcells K i) : closedK ks K = closedK ks H := by
  unfold closedK
  rw [Bool.eq_iff_iff, List.all_eq_true, List.all_eq_true]
  have : ∀ id ∈ ks, cellIds K id = cellIds H id := fun id hid => by unfold cellIds; rw [h id (by simpa using hid)]
  exact ⟨fun q id hid => by rw [← this id hid]; exact q id hid, fun q id hid => by rw [this id hid]; exact q id hid⟩
end

/-- Two states that agree on some operands, and on what these lead to. -/
structure Same (b : Bool) (xs : List Operand) (σ τ : St) : Prop where
  opd : ∀ x ∈ xs, opd σ.env x = opd τ.env x
  look : ∀ x ∈ xs, ∀ p, (Vm.opd σ.env x).refsTo p = true → look σ p = look τ p
  blk : b = true → ∀ x ∈ xs, ∀ id off, Vm.opd σ.env x = .ptr id off → bcells σ.heap id = bcells τ.heap id

theorem Same.sub {b : Bool} {xs ys : List Operand} {σ τ : St} (h : Same b xs σ τ) (hs : ∀ y ∈ ys, y ∈ xs) : Same b ys σ τ :=
  ⟨fun x hx => h.opd x (hs x hx), fun x hx => h.look x (hs x hx), fun hb x hx => h.blk hb x (hs x hx)⟩

theorem Eqv.same {σ τ : St} (h : Eqv σ τ) (xs : List Operand) : Same true xs σ τ := ⟨fun x _ => h.opd x, fun _ _ p _ => h.look p, fun _ _ _ _ _ _ => by rw [h.2]⟩

section
variable {b : Bool} {σ τ : St} {x : Operand} {xs : List Operand}

theorem content_same (h : Same b xs σ τ) (hx : x ∈ xs) : content σ (opd σ.env x) = content τ (opd τ.env x) := by
  rw [← h.opd x hx]
  cases hv : opd σ.env x <;> simp only [content]
  rw [h.look x hx _ (by rw [hv]; simp [V.refsTo])]
theorem base_same {sz : Nat} (h : Same b xs σ τ) (hx : x ∈ xs) : base sz σ x = base sz τ x := by
  unfold base
  rw [← h.opd x hx]
  cases hv : opd σ.env x
  case lent p => simp only [h.look x hx p (by rw [hv]; simp [V.refsTo])]
  case sl b ys => cases b <;> cases ys <;> rfl
  all_goals rfl
theorem take_same (h : Same b xs σ τ) (hx : x ∈ xs) : take σ x = take τ x := by
  unfold take
  rw [← h.opd x hx]
  cases hv : opd σ.env x <;> simp only
  rw [h.look x hx _ (by rw [hv]; simp [V.refsTo])]
theorem takeDat_same (h : Same b xs σ τ) (hx : x ∈ xs) : takeDat σ x = takeDat τ x := by
  unfold takeDat
  rw [← h.opd x hx]
  cases hv : opd σ.env x <;> simp only
  rw [h.look x hx _ (by rw [hv]; simp [V.refsTo])]
theorem view_same (h : Same b xs σ τ) (hx : x ∈ xs) : view σ x = view τ x := by
  unfold view
  rw [← h.opd x hx]
  cases hv : opd σ.env x <;> simp only
  rw [h.look x hx _ (by rw [hv]; simp [V.refsTo])]
theorem views_same (h : Same b xs σ τ) : ∀ (l : List Operand), (∀ x ∈ l, x ∈ xs) → views σ l = views τ l
  | [], _ => rfl
  | x :: l, hl => by
    simp only [views, view_same h (hl x (by simp)), views_same h l (fun y hy => hl y (by simp [hy]))]
theorem numOf_same (h : Same b xs σ τ) {o : Option Operand} (ho : ∀ x, o = some x → x ∈ xs) (d : Int) : numOf σ o d = numOf τ o d := by
  unfold numOf
  cases o with
  | none => rfl
  | some x => simp only [h.opd x (ho x rfl)]
theorem loadAt_same (h : Same true xs σ τ) (hx : x ∈ xs) (i : TI) : loadAt i σ (opd σ.env x) = loadAt i τ (opd τ.env x) := by
  unfold loadAt
  rw [← h.opd x hx]
  cases hv : opd σ.env x <;> simp only
  · rw [h.blk rfl x hx _ _ hv]
  · rw [h.look x hx _ (by rw [hv]; simp [V.refsTo])]
theorem storeAt_same {p : Operand} (h : Same true xs σ τ) (hp : p ∈ xs) (hx : x ∈ xs) (i : TI) : storeAt i σ (opd σ.env p) x = storeAt i τ (opd τ.env p) x := by
  unfold storeAt
  rw [← h.opd p hp, take_same h hx, takeDat_same h hx]
  cases hv : opd σ.env p <;> simp only
  · rw [h.blk rfl p hp _ _ hv]
  · rw [h.look p hp _ (by rw [hv]; simp [V.refsTo])]
theorem indexAt_same (h : Same b xs σ τ) (hx : x ∈ xs) (T : Types) (i : TI) (k : Int) : indexAt T i σ x k = indexAt T i τ x k := by
  unfold indexAt
  rw [← h.opd x hx]
  cases hv : opd σ.env x <;> simp only
  rw [h.look x hx _ (by rw [hv]; simp [V.refsTo])]

theorem takes_nil {f : St → Operand → Option (V × List (Place × V))} (hf : ∀ x ∈ xs, f σ x = f τ x) : ∀ (l : List (Nat × Operand)) (vs : List (Nat × V)), (∀ x ∈ l, x.2 ∈ xs) → takes f σ l = some (vs, []) → takes f τ l = some (vs, [])
  | [], vs, _, h => by simpa [takes] using h
  | (i, x) :: l, vs, hl, h => by
    simp only [takes] at h ⊢
    rw [← hf x (hl (i, x) (by simp))]
    cases h1 : f σ x with
    | none => simp [h1] at h
    | some vp =>
      obtain ⟨v, ps⟩ := vp
      simp only [h1] at h ⊢
      cases h2 : takes f (setPlaces σ ps) l with
      | none => simp [h2] at h
      | some vq =>
        obtain ⟨vs', qs⟩ := vq
        simp only [h2] at h
        injection h with h
        injection h with e1 e2
        obtain ⟨rfl, rfl⟩ := List.append_eq_nil_iff.1 e2
        simp only [setPlaces] at h2 ⊢
        rw [takes_nil hf l vs' (fun y hy => hl y (by simp [hy])) h2]
        simp [e1]

theorem takes_eqv {f : St → Operand → Option (V × List (Place × V))} (hf : ∀ (σ τ : St) x, Eqv σ τ → f σ x = f τ x) : ∀ (l : List (Nat × Operand)) {σ τ : St}, Eqv σ τ → takes f σ l = takes f τ l
  | [], _, _, _ => rfl
  | (i, x) :: l, σ, τ, h => by
    simp only [takes]
    rw [hf σ τ x h]
    cases f τ x with
    | none => rfl
    | some vp => simp only; rw [takes_eqv hf l (h.setPlaces vp.2)]

theorem callAt_same {call : CallF} {f : V} {args : List V} {ps : List (Place × V)} {e : Eff} (he : callAt call σ f args ps = some e) (hc : ∀ H, e.mem ≠ .all H)
    (hput : ∀ ks H, e.mem = .put ks H → σ.heap.length = τ.heap.length ∧ ∀ id, ks.contains id = true → bcells σ.heap id = bcells τ.heap id) : callAt call τ f args ps = some e := by
  unfold callAt at he ⊢
  split at he <;> try (cases he; done)
  rename_i fid first captured
  simp only at he ⊢
  split at he
  · rename_i hd
    rw [if_pos hd]
    split at he
    · exact he
    · injection he with he; subst he
      exact absurd rfl (hc _)
    · cases he
  · rename_i hd
    rw [if_neg hd]
    generalize hks : reach (setPlaces σ ps).heap (setPlaces σ ps).heap.length (argIds (first ++ args ++ captured)) = ks at he
    split at he
    · rename_i hcl
      split at he
      · rename_i r H' hcall
        split at he
        · rename_i hdead
          split at he
          · rename_i hlen
            injection he with he
            have hm : e.mem = .put ks H' := by rw [← he]
            obtain ⟨q1, q2⟩ := hput ks H' hm
            have l1 : (setPlaces σ ps).heap.length = (setPlaces τ ps).heap.length := by rw [(bcells_setPlaces ps σ 0).2, (bcells_setPlaces ps τ 0).2, q1]
            have l2 : ∀ id, ks.contains id = true → bcells (setPlaces σ ps).heap id = bcells (setPlaces τ ps).heap id := fun id hid => by
              rw [(bcells_setPlaces ps σ id).1, (bcells_setPlaces ps τ id).1, q2 id hid]
            have e1 : reach (setPlaces τ ps).heap (setPlaces τ ps).heap.length (argIds (first ++ args ++ captured)) = ks := by
              rw [← l1, reach_same _ _ (fun i hi => l2 i (by rw [← hks]; simpa using hi)), hks]
            rw [e1, closedK_same l2, if_pos hcl, maskH_same l1 l2, hcall]
            simp only
            rw [← l1, if_pos hdead, if_pos hlen, he]
          · injection he with he; subst he
            exact absurd rfl (hc _)
        · cases he
      · cases he
    · cases he

theorem vbin_same {op : BinOp} {i : TI} {b : Bool} {X Y : V} (c1 : content σ X = content τ X) (c2 : content σ Y = content τ Y) : vbin op i b σ X Y = vbin op i b τ X Y := by
  unfold vbin
  split <;> first
    | rfl
    | rw [c1, c2]

theorem eff_same {T : Types} {call : CallF} {cx : Cx} {fr : Nat} {o : Oper} {e : Eff} (he : eff T call cx fr o σ = some e) (hc : calm o e = true ∨ Eqv σ τ) (h : Same (derefs o) o.op.operands.toList σ τ)
    (hput : ∀ ks H, e.mem = .put ks H → σ.heap.length = τ.heap.length ∧ ∀ id, ks.contains id = true → bcells σ.heap id = bcells τ.heap id)
    (hfr : isFresh o = true → σ.heap.length = τ.heap.length ∧ bcells σ.heap fr = bcells τ.heap fr) : eff T call cx fr o τ = some e := by
  have mem : ∀ x, x ∈ o.op.operands → x ∈ o.op.operands.toList := fun x hx => by simpa using hx
  cases ho : o.op <;> simp only [ho, Go.Op.operands] at h
  case move x =>
    simp only [eff, ho] at he ⊢
    unfold moveAt at he ⊢
    rw [← h.opd x (by simp)]; exact he
  case pick c x y =>
    simp only [eff, ho] at he ⊢
    rw [← h.opd c (by simp), ← h.opd x (by simp), ← h.opd y (by simp)]; exact he
  case load t x =>
    simp only [eff, ho] at he ⊢
    cases hT : T t <;> simp only [hT] at he ⊢
    · exact he
    · rw [← loadAt_same (by simpa [derefs, ho] using h) (by simp)]; exact he
  case nilCheck x =>
    simp only [eff, ho] at he ⊢
    rw [← h.opd x (by simp)]; exact he
  case unOp op t x =>
    simp only [eff, ho] at he ⊢
    rw [← h.opd x (by simp)]; exact he
  case convert s t x =>
    simp only [eff, ho] at he ⊢
    rw [← h.opd x (by simp)]; exact he
  case fieldAddr t p f =>
    simp only [eff, ho] at he ⊢
    rw [← h.opd p (by simp)]; exact he
  case field t p f =>
    simp only [eff, ho] at he ⊢
    rw [← h.opd p (by simp)]; exact he
  case assign x =>
    simp only [eff, ho] at he ⊢
    cases hd : o.dst <;> simp only [hd] at he ⊢
    · exact he
    · unfold assignAt at he ⊢
      rw [← h.opd x (by simp)]
      cases hv : opd σ.env x <;> simp only [hv] at he ⊢ <;> try exact he
      · rename_i b ys
        cases b <;> cases ys <;> exact he
      · rw [← h.look x (by simp) _ (by rw [hv]; simp [V.refsTo])]; exact he
  case alloc t =>
    simp only [eff, ho] at he ⊢
    obtain ⟨h1, h2⟩ := hfr (by simp [isFresh, ho])
    rw [← h1, ← h2]; exact he
  case box t x =>
    simp only [eff, ho] at he ⊢
    obtain ⟨h1, h2⟩ := hfr (by simp [isFresh, ho])
    rw [← h1, ← h2, ← take_same h (by simp)]; exact he
  case build t ps =>
    simp only [eff, ho] at he ⊢
    cases hT : T t <;> cases ht : takes take σ ps.toList <;> simp only [hT, ht] at he <;> try (cases he; done)
    rename_i i vp
    obtain ⟨vs, qs⟩ := vp
    rcases hc with hc | hc
    case inr => rw [← takes_eqv (f := take) (fun _ _ x h => take_same (h.same [x]) (by simp)) ps.toList hc, ht]; exact he
    have hq : qs = [] := by
      simp only [calm, ho, Bool.and_eq_true, List.isEmpty_iff] at hc
      simp only at he
      cases hk : i.kind <;> simp only [hk] at he <;> try (cases he; done)
      · rename_i n el
        cases hel : T el <;> simp only [hel] at he
        · cases he
        · split at he
          · injection he with he; subst he; exact hc.2
          · cases he
      · rename_i fs
        split at he
        · cases he
        · split at he
          · injection he with he; subst he; exact hc.2
          · cases he
    subst hq
    rw [takes_nil (fun x hx => take_same h hx) ps.toList vs (fun x hx => by simpa using ⟨x.1, by simpa using hx⟩) ht]
    exact he
  case buildSlice t n ps =>
    simp only [eff, ho] at he ⊢
    cases hk : kindOf T t <;> cases ht : takes takeDat σ ps.toList <;> simp only [hk, ht] at he <;> try (cases he; done)
    · rename_i k vp
      obtain ⟨vs, qs⟩ := vp
      rcases hc with hc | hc
      case inr => rw [← takes_eqv (f := takeDat) (fun _ _ x h => takeDat_same (h.same [x]) (by simp)) ps.toList hc, ht]; exact he
      have hq : qs = [] := by
        simp only [calm, ho, Bool.and_eq_true, List.isEmpty_iff] at hc
        cases k <;> simp only at he <;> try (cases he; done)
        rename_i el
        cases hel : T el <;> simp only [hel] at he
        · cases he
        · split at he
          · injection he with he; subst he; exact hc.2
          · cases he
      subst hq
      rw [takes_nil (fun x hx => takeDat_same h hx) ps.toList vs (fun x hx => by simpa using ⟨x.1, by simpa using hx⟩) ht]
      exact he
  case store t p x =>
    simp only [eff, ho] at he ⊢
    cases hT : T t <;> simp only [hT] at he ⊢
    · exact he
    · rw [← storeAt_same (by simpa [derefs, ho] using h) (by simp) (by simp)]; exact he
  case binOp op t x y g =>
    simp only [eff, ho] at he ⊢
    cases hT : T t <;> simp only [hT] at he ⊢
    · exact he
    · rename_i i
      have hb : vbinop op i (isConst x || isConst y) σ (opd σ.env x) (opd σ.env y) = vbinop op i (isConst x || isConst y) τ (opd τ.env x) (opd τ.env y) := by
        have c1 := content_same h (x := x) (by simp)
        have c2 := content_same h (x := y) (by simp)
        rw [← h.opd x (by simp), ← h.opd y (by simp)] at *
        unfold vbinop
        cases i.kind.isAgg
        · exact vbin_same c1 c2
        · rfl
      rw [← hb]; exact he
  case makeFunc fn first captured =>
    simp only [eff, ho] at he ⊢
    have e1 : first.toList.map (opd τ.env) = first.toList.map (opd σ.env) := List.map_congr_left fun x hx => (h.opd x (by simp; left; simpa using hx)).symm
    have e2 : captured.toList.map (opd τ.env) = captured.toList.map (opd σ.env) := List.map_congr_left fun x hx => (h.opd x (by simp; right; simpa using hx)).symm
    rw [e1, e2]; exact he
  case slice t x lo hi mx =>
    simp only [eff, ho] at he ⊢
    have e1 : sliceAt T τ t x lo hi mx = sliceAt T σ t x lo hi mx := by
      unfold sliceAt
      rw [← h.opd x (by simp)]
      cases kindOf T t with
      | none => rfl
      | some k =>
        cases k <;> simp only
        cases hv : opd σ.env x <;> simp only
        rw [← numOf_same h (o := lo) (fun y hy => by simp [hy]), ← numOf_same h (o := hi) (fun y hy => by simp [hy])]
        cases mx with
        | none => rfl
        | some m => simp only [← numOf_same h (o := some m) (fun y hy => by simp at hy; simp [hy])]
    rw [e1]; exact he
  case indexAddr t x k =>
    simp only [eff, ho] at he ⊢
    rw [← h.opd k (by simp)]
    cases hT : T t <;> cases hk : opd σ.env k <;> simp only [hT, hk] at he ⊢ <;> try exact he
    rw [← indexAt_same h (by simp)]; exact he
  case index t x k =>
    simp only [eff, ho] at he ⊢
    rw [← h.opd k (by simp), ← h.opd x (by simp)]; exact he
  case extract x j =>
    simp only [eff, ho] at he ⊢
    rw [← h.opd x (by simp)]; exact he
  case makeSlice t l c =>
    simp only [eff, ho] at he ⊢
    rw [← h.opd l (by simp), ← h.opd c (by simp)]; exact he
  case call c =>
    simp only [eff, ho] at he ⊢
    cases hcal : c.callee with
    | invoke x m => simp [hcal] at he
    | builtin b =>
      have hargs : ∀ x, x ∈ c.args.toList → x ∈ c.operands.toList := fun x hx => by simp [Call.operands]; exact .inr (by simpa using hx)
      simp only [hcal] at he ⊢
      cases b <;> simp only [builtinAt] at he ⊢ <;> try (cases he; done)
      · unfold appendAt at he ⊢
        split at he <;> try (cases he; done)
        rename_i s x t tx ha ht
        rw [ha] at hargs
        try simp only [ha, ht]
        rw [← content_same h (hargs x (by simp))]
        split at he <;> try (cases he; done)
        rename_i el el' m ys k1 k2 k3
        try simp only [k1, k2, k3]
        cases hel : T el <;> simp only [hel] at he ⊢
        · exact he
        · rw [← base_same h (hargs s (by simp))]; exact he
      · unfold lenAt at he ⊢
        split at he <;> try (cases he; done)
        rename_i x t ha ht
        rw [ha] at hargs
        try simp only [ha, ht]
        rw [← content_same h (hargs x (by simp)), ← h.opd x (hargs x (by simp))]; exact he
      · unfold mmAt at he ⊢
        split at he <;> try (cases he; done)
        rename_i x y ha
        rw [ha] at hargs
        try simp only [ha]
        rw [← h.opd x (hargs x (by simp)), ← h.opd y (hargs y (by simp))]; exact he
      · unfold mmAt at he ⊢
        split at he <;> try (cases he; done)
        rename_i x y ha
        rw [ha] at hargs
        try simp only [ha]
        rw [← h.opd x (hargs x (by simp)), ← h.opd y (hargs y (by simp))]; exact he
    | value f =>
      have hargs : ∀ x, x ∈ c.args.toList → x ∈ c.operands.toList := fun x hx => by simp [Call.operands]; exact .inr (by simpa using hx)
      have hf : f ∈ c.operands.toList := by simp [Call.operands, hcal]
      simp only [hcal] at he ⊢
      rw [← views_same h c.args.toList hargs, ← h.opd f hf]
      cases hv : views σ c.args.toList with
      | none => simp [hv] at he
      | some vp =>
        obtain ⟨vs, ps⟩ := vp
        simp only [hv] at he ⊢
        rcases hc with hc | hc
        case inr =>
          unfold callAt at he ⊢
          have hh := (hc.setPlaces ps).2
          simp only [hh] at he ⊢
          exact he
        refine callAt_same he (fun H hH => ?_) hput
        simp [calm, hH] at hc
  all_goals (simp [eff, ho] at he)

end
end Go.Vm
