/- V5: what is appended; the two arms of an append; arrays that are made. -/
import Derived.Test.YtgmdkjiflhklaaaV4
import Derived.Laws.MakeOwn
import Derived.Great.BuildSlice
namespace Go.Vm
open Go

theorem Lay.mono {own own' : Own} {w w' : World} {sz : Nat} {xs : List V} {arr : Array Value} (h : Lay own w sz xs arr)
    (hk : ∀ b, own b = .im → own' b = .im ∧ w'.heap[b]? = w.heap[b]?) : Lay own' w' sz xs arr :=
  fun i x hx => ⟨(h i x hx).1, fun j y c hy hc => ((h i x hx).2 j y c hy hc).mono hk⟩

/-- What an append reads. -/
structure SrcL (own : Own) (w : World) (sz : Nat) (ys : List V) (news : List Value) : Prop where
  len : news.length = ys.length * sz
  cells : ∀ (i : Nat) (y : V), ys[i]? = some y → y.cells.length = sz
  fr : ∀ (i : Nat) (y : V) (j : Nat) (v : V) (u : Value), ys[i]? = some y → y.cells[j]? = some v → news[i * sz + j]? = some u → FR own w v u

theorem idx_lt {i j n sz : Nat} (hi : i < n) (hj : j < sz) : i * sz + j < n * sz := by
  have : (i + 1) * sz ≤ n * sz := Nat.mul_le_mul_right _ (by omega)
  rw [Nat.succ_mul] at this; omega

theorem Lay.append {own : Own} {w : World} {sz : Nat} {xs ys : List V} {arr arr' : Array Value} {news : List Value} (hx : Lay own w sz xs arr) (hy : SrcL own w sz ys news)
    (h1 : ∀ k, k < xs.length * sz → arr'[k]? = arr[k]?) (h2 : ∀ k, k < news.length → arr'[xs.length * sz + k]? = news[k]?) : Lay own w sz (xs ++ ys) arr' := by
  intro i x hi
  rw [List.getElem?_append] at hi
  by_cases hlt : i < xs.length
  · rw [if_pos hlt] at hi
    refine ⟨(hx i x hi).1, fun j y c hj hc => ?_⟩
    have hjs : j < sz := by rw [← (hx i x hi).1]; exact (List.getElem?_eq_some_iff.1 hj).1
    rw [h1 _ (idx_lt hlt hjs)] at hc
    exact (hx i x hi).2 j y c hj hc
  · rw [if_neg hlt] at hi
    refine ⟨hy.cells _ x hi, fun j y c hj hc => ?_⟩
    have hjs : j < sz := by rw [← hy.cells _ x hi]; exact (List.getElem?_eq_some_iff.1 hj).1
    have hil : i - xs.length < ys.length := (List.getElem?_eq_some_iff.1 hi).1
    have hk : (i - xs.length) * sz + j < news.length := by rw [hy.len]; exact idx_lt hil hjs
    have he : i * sz + j = xs.length * sz + ((i - xs.length) * sz + j) := by
      rw [← Nat.add_assoc, ← Nat.add_mul]; congr 2; omega
    rw [he, h2 _ hk] at hc
    exact hy.fr _ x j y c hi hj hc

theorem div_mod_idx {sz : Nat} (hs : 0 < sz) (i j : Nat) (hj : j < sz) : (i * sz + j) / sz = i ∧ (i * sz + j) % sz = j := by
  constructor
  · rw [Nat.mul_comm, Nat.mul_add_div hs, Nat.div_eq_of_lt hj]; rfl
  · rw [Nat.mul_comm, Nat.mul_add_mod]; exact Nat.mod_eq_of_lt hj

/-- A frozen slice as what is appended. -/
theorem src_of_FR {P : Program} {own : Own} {w : World} {sz : Nat} {m : Bool} {ys : List V} {c : Value} {tx e' : TypeId} (hs : 0 < sz) (hk : P.underlying tx = some (.slice e'))
    (h : FR own w (.sl m ys) c) (hc : ∀ y ∈ ys, y.cells.length = sz) : ∃ news, Src P sz tx c ys.length news w ∧ SrcL own w sz ys news := by
  cases h with
  | nil => exact ⟨[], Src.ofNil w hk 0, ⟨by simp, by simp, by simp⟩⟩
  | none a cap =>
    refine ⟨[], ?_, ⟨by simp, by simp, by simp⟩⟩
    exact Src.ofSlice w hk a 0 cap [] (by simp) (by simp) (by simp)
  | sl b o cap sz' xs cv him hcap hcells hfr =>
    have hsz : ∀ (i : Nat) (x : V), ys[i]? = some x → x.cells.length = sz ∧ sz' = sz := fun i x hx => by
      have h1 := hc x (List.mem_of_getElem? hx)
      exact ⟨h1, by rw [← (hcells i x hx).1]; exact h1⟩
    let news : List Value := (List.range (ys.length * sz)).map fun k => cv (k / sz) (k % sz)
    have hlen : news.length = ys.length * sz := by simp [news]
    have hget : ∀ (k : Nat) (u : Value), news[k]? = some u → k < ys.length * sz ∧ u = cv (k / sz) (k % sz) := by
      intro k u hu
      have hlt := (List.getElem?_eq_some_iff.1 hu).1
      rw [hlen] at hlt
      refine ⟨hlt, ?_⟩
      simp only [news, List.getElem?_map, List.getElem?_range hlt, Option.map_some, Option.some.injEq] at hu
      exact hu.symm
    refine ⟨news, Src.ofSlice w hk ⟨b, o, Option.none⟩ ys.length cap news hlen (fun k u hu => ?_) (fun u hu => ?_), ⟨hlen, fun i y hy => (hsz i y hy).1, fun i y j v u hy hv hu => ?_⟩⟩
    · obtain ⟨hlt, rfl⟩ := hget k u hu
      have hi : k / sz < ys.length := Nat.div_lt_of_lt_mul (by rw [Nat.mul_comm]; exact hlt)
      have hx : ys[k / sz]? = some ys[k / sz] := List.getElem?_eq_getElem hi
      have := (hcells (k / sz) _ hx).2 (k % sz) (by rw [(hsz _ _ hx).2]; exact Nat.mod_lt _ hs)
      rw [Addr.add_mid]
      rw [(hsz _ _ hx).2] at this
      have he : o + k / sz * sz + k % sz = o + k := by rw [Nat.add_assoc, Nat.mul_comm, Nat.div_add_mod]
      rw [he] at this; exact this
    · obtain ⟨k, hk'⟩ := List.getElem?_of_mem hu
      obtain ⟨hlt, rfl⟩ := hget k u hk'
      have hi : k / sz < ys.length := Nat.div_lt_of_lt_mul (by rw [Nat.mul_comm]; exact hlt)
      have hx : ys[k / sz]? = some ys[k / sz] := List.getElem?_eq_getElem hi
      have hj : k % sz < ys[k / sz].cells.length := by rw [(hsz _ _ hx).1]; exact Nat.mod_lt _ hs
      exact (hfr (k / sz) _ (k % sz) _ hx (List.getElem?_eq_getElem hj)).one
    · obtain ⟨hlt, rfl⟩ := hget _ u hu
      have hj : j < sz := by rw [← (hsz i y hy).1]; exact (List.getElem?_eq_some_iff.1 hv).1
      obtain ⟨h1, h2⟩ := div_mod_idx hs i j hj
      rw [h1, h2]
      exact hfr i y j v hy hv

/-- An array of ours as what is appended. -/
theorem src_of_EXR {P : Program} {own : Own} {w : World} {l : Loc} {sz sz0 : Nat} {m : Bool} {ys : List V} {c : Value} {tx e' : TypeId} (hs : 0 < sz) (hk : P.underlying tx = some (.slice e'))
    (h : EXR own w l sz0 m ys c) (hc : ∀ y ∈ ys, y.cells.length = sz) : ∃ news, Src P sz tx c ys.length news w ∧ SrcL own w sz ys news := by
  rcases h with ⟨rfl, _, rfl⟩ | ⟨rfl, _, a, rfl⟩ | ⟨_, b, cap, T, arr, rfl, h2, h3, h4, h5, h6⟩
  · exact ⟨[], Src.ofNil w hk 0, ⟨by simp, by simp, by simp⟩⟩
  · exact ⟨[], Src.ofSlice w hk a 0 0 [] (by simp) (by simp) (by simp), ⟨by simp, by simp, by simp⟩⟩
  · have hsz : ∀ (i : Nat) (x : V), ys[i]? = some x → x.cells.length = sz ∧ sz0 = sz := fun i x hx => by
      have h1 := hc x (List.mem_of_getElem? hx)
      exact ⟨h1, by rw [← (h6 i x hx).1]; exact h1⟩
    let news : List Value := arr.toList.take (ys.length * sz)
    have hle : ys.length * sz ≤ arr.size := by
      rcases Nat.eq_zero_or_pos ys.length with hz | hp
      · rw [hz, Nat.zero_mul]; exact Nat.zero_le _
      · have : sz0 = sz := (hsz 0 ys[0] (List.getElem?_eq_getElem hp)).2
        rw [h5, this]; exact Nat.mul_le_mul_right _ h4
    have hlen : news.length = ys.length * sz := by simp [news]; omega
    have hget : ∀ (k : Nat) (u : Value), news[k]? = some u → k < ys.length * sz ∧ arr[k]? = some u := by
      intro k u hu
      have hlt := (List.getElem?_eq_some_iff.1 hu).1
      rw [hlen] at hlt
      refine ⟨hlt, ?_⟩
      simp only [news, List.getElem?_take, if_pos hlt] at hu
      simpa using hu
    have hone : ∀ (k : Nat) (u : Value), news[k]? = some u → ∃ (i : Nat) (y : V) (j : Nat) (v : V), ys[i]? = some y ∧ y.cells[j]? = some v ∧ FR own w v u ∧ k = i * sz + j := by
      intro k u hu
      obtain ⟨hlt, hu'⟩ := hget k u hu
      have hi : k / sz < ys.length := Nat.div_lt_of_lt_mul (by rw [Nat.mul_comm]; exact hlt)
      have hx : ys[k / sz]? = some ys[k / sz] := List.getElem?_eq_getElem hi
      have hj : k % sz < ys[k / sz].cells.length := by rw [(hsz _ _ hx).1]; exact Nat.mod_lt _ hs
      have he : k = k / sz * sz + k % sz := by rw [Nat.mul_comm, Nat.div_add_mod]
      refine ⟨k / sz, _, k % sz, _, hx, List.getElem?_eq_getElem hj, (h6 _ _ hx).2 (k % sz) _ u (List.getElem?_eq_getElem hj) ?_, he⟩
      rw [(hsz _ _ hx).2, ← he]; exact hu'
    refine ⟨news, Src.ofSlice w hk ⟨b, 0, none⟩ ys.length cap news hlen (fun k u hu => ?_) (fun u hu => ?_), ⟨hlen, fun i y hy => (hsz i y hy).1, fun i y j v u hy hv hu => ?_⟩⟩
    · rw [Addr.add_mid, Nat.zero_add, cell_of_row w b k arr T _ h3]; exact (hget k u hu).2
    · obtain ⟨k, hk'⟩ := List.getElem?_of_mem hu
      obtain ⟨i, y, j, v, _, _, hf, _⟩ := hone k u hk'
      exact hf.one
    · refine (h6 i y hy).2 j v u hv ?_
      rw [(hsz i y hy).2]; exact (hget _ u hu).2

/-- There is room: the row. -/
theorem append_room {P : Program} (w : World) (t tx ty e T : TypeId) (i : TypeInfo) (ht : P.underlying t = some (.slice e)) (hi : P.info? e = some i) (b sLen sCap : Nat) (arr : Array Value) (x : Value) (n : Nat)
    (news : List Value) (hs : Src P i.size tx x n news w) (hroom : sLen + n ≤ sCap) (hb : w.heap[b]? = some (.cells arr T (0, 0))) (hfit : sLen * i.size + news.length ≤ arr.size) :
    (Builtin.append_ #[t, tx] ty #[.slice (some ⟨b, 0, none⟩) sLen sCap, x]).run P w = .ok (.slice (some ⟨b, 0, none⟩) (sLen + n) sCap) (w.setRow b (patch arr (sLen * i.size) news)) := by
  have hst := run_storeCells_at P b (sLen * i.size) T news 0 arr w hb (by simpa using hfit) hs.one
  simp only [Nat.add_zero] at hst
  rcases hs.kind with ⟨e', hk⟩ | hk <;> simp [Builtin.append_, run_underlying ht, run_underlying hk, sizeOf, typeInfo, hi, hs.len, hroom, hs.cells, Addr.add_lit, hst, patch]

theorem firstCells_olds {P : Program} {w : World} {own : Own} {sz : Nat} {n : Bool} {xs : List V} {c : Value} (hx : EXR own w (.res 0 0) sz n xs c) :
    ∃ (base : Option Addr) (cap : Nat) (olds : List Value), c = .slice base xs.length cap ∧ olds.length = xs.length * sz ∧ (Builtin.firstCells sz xs.length (.slice base xs.length cap)).run P w.drew = .ok olds.toArray w.drew ∧
      Lay own w sz xs olds.toArray := by
  rcases hx with ⟨rfl, _, rfl⟩ | ⟨rfl, _, a, rfl⟩ | ⟨_, b, cap, T, arr, rfl, h2, h3, h4, h5, h6⟩
  · exact ⟨none, 0, [], rfl, by simp, run_firstCells_none w.drew sz 0 0 0, by intro i x h; simp at h⟩
  · refine ⟨some a, 0, [], rfl, by simp, ?_, by intro i x h; simp at h⟩
    exact run_firstCells_some w.drew sz 0 a 0 0 [] (by simp) (by simp)
  · have hle : xs.length * sz ≤ arr.size := by rw [h5]; exact Nat.mul_le_mul_right _ h4
    have hl : (arr.toList.take (xs.length * sz)).length = xs.length * sz := by simp; omega
    refine ⟨some ⟨b, 0, none⟩, cap, arr.toList.take (xs.length * sz), rfl, hl, ?_, ?_⟩
    · refine run_firstCells_some w.drew sz xs.length ⟨b, 0, none⟩ xs.length cap _ hl (fun j u hu => ?_)
      have hlt := (List.getElem?_eq_some_iff.1 hu).1
      rw [hl] at hlt
      rw [List.getElem?_take, if_pos hlt] at hu
      rw [Addr.add_mid, Nat.zero_add, World.cell?_drew, cell_of_row w b j arr T _ h3]
      simpa using hu
    · intro i x hi
      refine ⟨(h6 i x hi).1, fun j y c hj hc => (h6 i x hi).2 j y c hj ?_⟩
      have hjs : j < sz := by rw [← (h6 i x hi).1]; exact (List.getElem?_eq_some_iff.1 hj).1
      have hlt := idx_lt (List.getElem?_eq_some_iff.1 hi).1 hjs
      simp only [List.getElem?_toArray, List.getElem?_take, if_pos hlt] at hc
      simpa using hc

/-- **An append** to what the result holds. -/
theorem SR.append {P : Program} {own : Own} {β : Nat → Nat} {w : World} {σ : St} {tmps : Array Value} (h : SR own β w σ tmps) {t tx ty e : TypeId} {i : TypeInfo} {z : Value}
    (ht : P.underlying t = some (.slice e)) (hi : P.info? e = some i) (hz : i.zero = some z) (hzs : z.cells.size = i.size) (hs0 : 0 < i.size)
    {n : Bool} {xs ys : List V} {c cx : Value} {news : List Value} (hx : EXR own w (.res 0 0) i.size n xs c)
    (hsrc : Src P i.size tx cx ys.length news w) (hsl : SrcL own w i.size ys news) (hroom : (xs.length + ys.length) * i.bytes ≤ 2 ^ 47) (hmax : xs.length + ys.length < 2 ^ 62) :
    ∃ c' w' own', (Builtin.append_ #[t, tx] ty #[c, cx]).run P w = .ok c' w' ∧ SR own' β w' σ tmps ∧ Stay own w own' w' ∧
      EXR own' w' (.res 0 0) i.size (n && ys.isEmpty) (xs ++ ys) c' := by
  have grow : ∀ (base : Option Addr) (cap : Nat) (olds : List Value), c = .slice base xs.length cap → olds.length = xs.length * i.size →
      (Builtin.firstCells i.size xs.length (.slice base xs.length cap)).run P w.drew = .ok olds.toArray w.drew → Lay own w i.size xs olds.toArray →
      cap < xs.length + ys.length → ∃ c' w' own', (Builtin.append_ #[t, tx] ty #[c, cx]).run P w = .ok c' w' ∧ SR own' β w' σ tmps ∧ Stay own w own' w' ∧
      EXR own' w' (.res 0 0) i.size false (xs ++ ys) c' := by
    intro base cap olds hc hol hof hlo hg
    have hr := run_append_grow_src (P := P) w t tx ty e i z ht hi hz base xs.length cap olds hof cx ys.length news hsrc hg (by omega) (growslice_fits (by omega) hroom)
    have hge := grownCap_ge w (xs.length + ys.length) cap e
    obtain ⟨own', h1, h2, h3, _⟩ := h.fresh (w' := w.drew.alloc (.cells ((olds ++ news).toArray ++ Builtin.zeroCells z.cells (grownCap w (xs.length + ys.length) cap e - (xs.length + ys.length))) e))
      (sz := i.size) (xs := xs ++ ys) (cap := grownCap w (xs.length + ys.length) cap e) rfl rfl rfl rfl (by simpa using hge)
      (by simp only [Array.size_append, List.size_toArray, List.length_append, size_zeroCells, hzs, hol, hsl.len, ← Nat.add_mul]; congr 1; omega)
      (Lay.append hlo hsl (fun k hk => by
          rw [Array.getElem?_append_left (by simp; omega)]
          simp only [List.getElem?_toArray]
          rw [List.getElem?_append_left (by omega)])
        (fun k hk => by
          rw [Array.getElem?_append_left (by simp; omega)]
          simp only [List.getElem?_toArray]
          rw [List.getElem?_append_right (by omega)]
          congr 1; omega))
    refine ⟨_, _, own', by rw [hc]; exact hr, h1, h2, ?_⟩
    have he : (xs ++ ys).length = xs.length + ys.length := by simp
    rw [← he] at h3 ⊢
    exact h3
  by_cases hroomy : ∃ b cap T arr, c = .slice (some ⟨b, 0, none⟩) xs.length cap ∧ own b = .res 0 0 ∧ w.heap[b]? = some (.cells arr T (0, 0)) ∧ xs.length + ys.length ≤ cap ∧
      arr.size = cap * i.size ∧ Lay own w i.size xs arr ∧ n = false
  · obtain ⟨b, cap, T, arr, rfl, h2, h3, h4, h5, h6, rfl⟩ := hroomy
    have hfit : xs.length * i.size + news.length ≤ arr.size := by rw [hsl.len, h5, ← Nat.add_mul]; exact Nat.mul_le_mul_right _ h4
    have hr := append_room (P := P) w t tx ty e T i ht hi b xs.length cap arr cx ys.length news hsrc h4 h3 hfit
    obtain ⟨s1, s2⟩ := h.pokeRes (w' := w.setRow b (patch arr (xs.length * i.size) news)) h2 (by simp) (fun k hk => setRow_other w b k _ hk) rfl rfl rfl
    refine ⟨_, _, own, hr, s1, s2, .inr (.inr ⟨by simp, b, cap, T, patch arr (xs.length * i.size) news, by simp, h2, setRow_at w b arr _ T _ h3, by simpa using h4,
      by rw [patch_size _ _ _ hfit]; exact h5, ?_⟩)⟩
    refine (Lay.append h6 hsl (fun k hk => ?_) (fun k hk => ?_)).mono s2.im
    · rw [patch_get _ _ _ hfit, if_neg (by omega)]
    · rw [patch_get _ _ _ hfit, if_pos (by omega)]; congr 1; omega
  · by_cases hy : ys = []
    · subst hy
      have hnews : news = [] := List.eq_nil_of_length_eq_zero (by rw [hsl.len]; simp)
      subst hnews
      have hx' := hx
      have hl0 := hsrc.len
      have hc0 := hsrc.cells
      simp only [List.length_nil] at hl0 hc0
      rcases hx with ⟨rfl, rfl, rfl⟩ | ⟨rfl, rfl, a, rfl⟩ | ⟨rfl, b, cap, T, arr, rfl, h2, h3, h4, h5, h6⟩
      · refine ⟨_, w, own, ?_, h, Stay.refl _ _, by simpa using hx'⟩
        rcases hsrc.kind with ⟨e', hk⟩ | hk <;> simp [Builtin.append_, run_underlying ht, run_underlying hk, sizeOf, typeInfo, hi, hl0, hc0]
      · refine ⟨_, w, own, ?_, h, Stay.refl _ _, by simpa using hx'⟩
        rcases hsrc.kind with ⟨e', hk⟩ | hk <;> simp [Builtin.append_, run_underlying ht, run_underlying hk, sizeOf, typeInfo, hi, hl0, hc0, storeCells]
      · exact absurd ⟨b, cap, T, arr, rfl, h2, h3, by simpa using h4, h5, h6, rfl⟩ hroomy
    · have hpos : 0 < ys.length := List.length_pos_iff.2 hy
      have hemp : (n && ys.isEmpty) = false := by cases ys with | nil => exact absurd rfl hy | cons _ _ => simp
      rw [hemp]
      obtain ⟨base, cap, olds, h1, h2, h3, h4⟩ := firstCells_olds (P := P) hx
      refine grow base cap olds h1 h2 h3 h4 ?_
      rcases hx with ⟨rfl, rfl, rfl⟩ | ⟨rfl, rfl, a, rfl⟩ | ⟨rfl, b, cap', T, arr, rfl, q2, q3, q4, q5, q6⟩
      · injection h1 with _ _ h1; subst h1; simpa using hpos
      · injection h1 with _ _ h1; subst h1; simpa using hpos
      · injection h1 with hb1 _ hc1
        rcases Nat.lt_or_ge cap (xs.length + ys.length) with hlt | hge
        · exact hlt
        · exact absurd ⟨b, cap', T, arr, rfl, q2, q3, by omega, q5, q6, rfl⟩ hroomy

end Go.Vm
