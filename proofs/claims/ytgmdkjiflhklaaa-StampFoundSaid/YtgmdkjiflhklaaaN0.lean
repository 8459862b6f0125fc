/- N0: changed chains: what Verify says of them, in plain numbers. -/
import Derived.Test.YtgmdkjiflhklaaaM1
import Derived.Test.YtgmdkjiflhklaaaA7
namespace Go.Proofs.Ytgmdkjiflhklaaa
open Go Go.Vm

/-- The sign that a stamp must have been made with. -/
def sgAt (key : Int) (l : List Stp) (k : Nat) : Int := if k = 0 then P.mix key 3 else (l.getD (k - 1) noS).sgn

theorem win_in {a b : Int} (h1 : 0 ≤ a) (h2 : a ≤ 1000000000000000) (h3 : 0 ≤ b) (h4 : b ≤ 1000000000000000) : P.win 1000000000000000 [a, b] = true := by
  rw [win_pair]; simp; omega

/-- Nothing is wrong with the stamps of a chain. -/
theorem chain_good {key : Int} {l : List Stp} {ts : List Int} {la now : Int} (hc : Chain key l ts la now) {k : Nat} (hk : k < l.length) :
    vbad key k (sgAt key l k) (l.getD (k - 1) noS).lo (l.getD k noS) = 0 := by
  obtain ⟨_, _, _, hsig, _⟩ := hc.props
  obtain ⟨p, hs⟩ := hsig k hk (Nat.zero_le _) hk
  rw [getD_at hk]
  have h1 := p.ser; have h2 := p.lo0; have h3 := p.loM; have h4 := p.hi0; have h5 := p.hiM; have h6 := p.le
  have hw := win_in h2 h3 h4 h5
  have hsg : l[k].sgn = Fd.sgn key (sgAt key l k) l[k].ser l[k].doc l[k].lo l[k].hi := by
    unfold sgAt
    by_cases h0 : k = 0
    · rw [if_pos h0]; rw [if_pos h0] at hs; exact hs
    · rw [if_neg h0]; rw [if_neg h0] at hs; rw [getD_at (by omega)]; exact hs
  have ho : (decide ((k : Int) > 0) && decide (l[k].lo < (l.getD (k - 1) noS).lo)) = false := by
    by_cases h0 : 0 < k
    · have := p.mono h0
      rw [getD_at (by omega)]
      simp; intro _; omega
    · simp; intro h; omega
  unfold vbad
  rw [hw, ho, ← hsg]
  simp [h1]
  omega

/-- As far as stamps are those of a chain, all is right. -/
theorem ver_upto {key : Int} {l X : List Stp} {ts : List Int} {la now : Int} (hc : Chain key l ts la now) {f : Nat} (hf : f ≤ l.length) (hX : f ≤ X.length) (he : ∀ j, j < f → X[j]? = l[j]?) :
    ∀ d k, k + d = f → verN key X (X.length - k) k (sgAt key l k) = verN key X (X.length - f) f (sgAt key l f)
  | 0, k, hk => by have : k = f := by omega
                   subst this; rfl
  | d + 1, k, hk => by
    have ih := ver_upto hc hf hX he d (k + 1) (by omega)
    have e : X.length - k = (X.length - (k + 1)) + 1 := by omega
    have gd : ∀ j, j < f → X.getD j noS = l.getD j noS := fun j hj => by rw [List.getD_eq_getElem?_getD, List.getD_eq_getElem?_getD, he j hj]
    have g1 : X.getD (k - 1) noS = l.getD (k - 1) noS := gd _ (by omega)
    rw [e, verN, gd k (by omega), g1, chain_good hc (by omega), if_pos rfl, ← ih]
    unfold sgAt; rw [if_neg (by omega)]; simp

/-- What is said of a changed chain. -/
structure Chg (key : Int) (l X : List Stp) (f : Nat) : Prop where
  le : f ≤ X.length
  lx : X.length ≤ l.length
  same : ∀ j, j < f → X[j]? = l[j]?
  other : f < X.length → X[f]? ≠ l[f]?
  num : (P.vr key X).1 = f
  err : (P.vr key X).2 = 0 ↔ f = X.length

theorem chg_of {key : Int} {l X : List Stp} {ts : List Int} {la now : Int} (hc : Chain key l ts la now) (hl : l.length ≤ 1000) {f : Nat} (h1 : f ≤ X.length) (h2 : X.length ≤ l.length) (h3 : ∀ j, j < f → X[j]? = l[j]?)
    (h4 : f < X.length → X[f]? ≠ l[f]? ∧ vbad key f (sgAt key l f) (X.getD (f - 1) noS).lo (X.getD f noS) ≠ 0) : Chg key l X f := by
  have hv : P.vr key X = verN key X (X.length - f) f (sgAt key l f) := by
    unfold P.vr
    rw [if_neg (by omega)]
    exact ver_upto hc (by omega) h1 h3 f 0 (by omega)
  refine ⟨h1, h2, h3, fun h => (h4 h).1, ?_, ?_⟩
  · rw [hv]
    by_cases h : f = X.length
    · rw [h, Nat.sub_self]; rfl
    · obtain ⟨_, q⟩ := h4 (by omega)
      rw [show X.length - f = (X.length - (f + 1)) + 1 by omega, verN, if_neg q]
  · rw [hv]
    by_cases h : f = X.length
    · rw [h, Nat.sub_self]; simp [verN]
    · obtain ⟨_, q⟩ := h4 (by omega)
      rw [show X.length - f = (X.length - (f + 1)) + 1 by omega, verN, if_neg q]
      simp only [h, iff_false]; exact q

theorem mix_bits {a b c : Int} (h : P.mix a b = P.mix a c) : BitVec.ofInt 64 b = BitVec.ofInt 64 c := by
  rw [mix_B, mix_B] at h
  have h := BitVec.eq_of_toNat_eq (Int.ofNat.inj h)
  rw [mixB_comm, mixB_comm _ (BitVec.ofInt 64 c)] at h
  exact mixB_inj h
theorem mix_l {a b c : Int} (ha : inU a) (hb : inU b) (h : P.mix a c = P.mix b c) : a = b := mix_left ha hb h

/-- A sign is made with one document and one upper bound alone. -/
theorem sgn_doc {key la s d d' lo hi : Int} (h : Fd.sgn key la s d lo hi = Fd.sgn key la s d' lo hi) : BitVec.ofInt 64 d = BitVec.ofInt 64 d' := by
  unfold Fd.sgn at h
  exact mix_bits (mix_left (mix_in _ _) (mix_in _ _) (mix_left (mix_in _ _) (mix_in _ _) (mix_left (mix_in _ _) (mix_in _ _) h)))
theorem sgn_hi {key la s d lo hi hi' : Int} (h : Fd.sgn key la s d lo hi = Fd.sgn key la s d lo hi') : BitVec.ofInt 64 (IntKind.u64.wrap hi) = BitVec.ofInt 64 (IntKind.u64.wrap hi') := by
  unfold Fd.sgn at h
  exact mix_bits (mix_left (mix_in _ _) (mix_in _ _) h)

/-- A stamp with another sign than it must have is wrong. -/
theorem bad_sgn {key : Int} {k : Nat} {la p : Int} {s : Stp} (h : s.sgn ≠ Fd.sgn key la s.ser s.doc s.lo s.hi) : vbad key k la p s ≠ 0 := by
  unfold vbad
  intro hq
  repeat' (split at hq)
  all_goals first
    | (cases hq; done)
    | (rename_i h'; simp at h'; exact h h')
theorem bad_ser {key : Int} {k : Nat} {la p : Int} {s : Stp} (h : s.ser ≠ (k : Int)) : vbad key k la p s ≠ 0 := by
  unfold vbad
  rw [if_pos (by simpa using h)]; decide

theorem chain_sgn {key : Int} {l : List Stp} {ts : List Int} {la now : Int} (hc : Chain key l ts la now) {k : Nat} (hk : k < l.length) : Pass l k ∧ l[k].sgn = Fd.sgn key (sgAt key l k) l[k].ser l[k].doc l[k].lo l[k].hi := by
  obtain ⟨_, _, _, hsig, _⟩ := hc.props
  obtain ⟨p, hs⟩ := hsig k hk (Nat.zero_le _) hk
  refine ⟨p, ?_⟩
  unfold sgAt
  by_cases h0 : k = 0
  · rw [if_pos h0]; rw [if_pos h0] at hs; exact hs
  · rw [if_neg h0]; rw [if_neg h0] at hs; rw [getD_at (by omega)]; exact hs

/-- One stamp is another. -/
theorem chg_set {key : Int} {l : List Stp} {ts : List Int} {la now : Int} (hc : Chain key l ts la now) (hl : l.length ≤ 1000) {i : Nat} (hi : i < l.length) {s : Stp} (hne : s ≠ l[i])
    (hb : ∀ p, vbad key i (sgAt key l i) p s ≠ 0) : Chg key l (l.set i s) i := by
  refine chg_of hc hl (by simp; omega) (by simp) (fun j hj => by rw [List.getElem?_set_ne (by omega)]) (fun _ => ⟨?_, ?_⟩)
  · rw [List.getElem?_set_self hi, List.getElem?_eq_getElem hi]; intro h; injection h with h; exact hne h
  · have : (l.set i s).getD i noS = s := by rw [List.getD_eq_getElem?_getD, List.getElem?_set_self hi]; rfl
    rw [this]; exact hb _
theorem chg_doc {key : Int} {l : List Stp} {ts : List Int} {la now : Int} (hc : Chain key l ts la now) (hl : l.length ≤ 1000) {i : Nat} (hi : i < l.length) :
    Chg key l (l.set i { l[i] with doc := IntKind.u64.wrap (l[i].doc + 1) }) i := by
  have hb : BitVec.ofInt 64 l[i].doc ≠ BitVec.ofInt 64 (IntKind.u64.wrap (l[i].doc + 1)) := by
    rw [u64w, ofw, BitVec.ofInt_add]
    intro h
    have := congrArg (fun z => z - BitVec.ofInt 64 l[i].doc) h
    simp [BitVec.add_comm, BitVec.add_sub_cancel] at this
  refine chg_set hc hl hi (fun h => hb ?_) (fun p => bad_sgn ?_)
  · have := congrArg Stp.doc h; simp only at this; rw [this]
  · obtain ⟨_, hs⟩ := chain_sgn hc hi
    simp only
    rw [hs]
    exact fun h => hb (sgn_doc h)
theorem chg_hi {key : Int} {l : List Stp} {ts : List Int} {la now : Int} (hc : Chain key l ts la now) (hl : l.length ≤ 1000) {i : Nat} (hi : i < l.length) :
    Chg key l (l.set i { l[i] with hi := IntKind.i64.wrap (l[i].hi + 1) }) i := by
  obtain ⟨p, hs⟩ := chain_sgn hc hi
  have h1 := p.hi0; have h2 := p.hiM
  have hw : IntKind.i64.wrap (l[i].hi + 1) = l[i].hi + 1 := i64in (by omega) (by omega)
  rw [hw]
  refine chg_set hc hl hi (fun h => ?_) (fun p => bad_sgn ?_)
  · have := congrArg Stp.hi h; simp only at this; omega
  · simp only
    rw [hs]
    intro h
    have := sgn_hi h
    rw [wrap_u64', wrap_u64', Int.emod_eq_of_lt (by omega) (by omega), Int.emod_eq_of_lt (by omega) (by omega)] at this
    have := ofInt_inj ⟨by omega, by omega⟩ ⟨by omega, by omega⟩ this
    omega
theorem chg_sgn {key : Int} {l : List Stp} {ts : List Int} {la now : Int} (hc : Chain key l ts la now) (hl : l.length ≤ 1000) {i : Nat} (hi : i < l.length) :
    Chg key l (l.set i { l[i] with sgn := IntKind.u64.wrap (l[i].sgn - 1) }) i := by
  obtain ⟨p, hs⟩ := chain_sgn hc hi
  have hu : inU l[i].sgn := by rw [hs]; exact mix_in _ _
  have hb : IntKind.u64.wrap (l[i].sgn - 1) ≠ l[i].sgn := by
    obtain ⟨h1, h2⟩ := hu
    rw [wrap_u64']; omega
  refine chg_set hc hl hi (fun h => ?_) (fun p => bad_sgn ?_)
  · have := congrArg Stp.sgn h; simp only at this; exact hb this
  · simp only
    rw [← hs]; exact hb
theorem chain_ser {key : Int} {l : List Stp} {ts : List Int} {la now : Int} (hc : Chain key l ts la now) {k : Nat} (hk : k < l.length) : l[k].ser = (k : Int) := (chain_sgn hc hk).1.ser
theorem chg_del {key : Int} {l : List Stp} {ts : List Int} {la now : Int} (hc : Chain key l ts la now) (hl : l.length ≤ 1000) {i : Nat} (hi : i < l.length) :
    Chg key l (l.take i ++ l.drop (i + 1)) i := by
  have hlen : (l.take i ++ l.drop (i + 1)).length = l.length - 1 := by simp; omega
  have hti : (l.take i).length = i := by simp; omega
  have hat : i < l.length - 1 → (l.take i ++ l.drop (i + 1))[i]? = l[i + 1]? := fun h => by
    rw [List.getElem?_append_right (by omega), hti, List.getElem?_drop]; congr 1; omega
  refine chg_of hc hl (by omega) (by omega) (fun j hj => ?_) (fun h => ?_)
  · rw [List.getElem?_append_left (by omega), List.getElem?_take, if_pos hj]
  · rw [hlen] at h
    have h1 := hat h
    rw [List.getElem?_eq_getElem (show i + 1 < l.length by omega)] at h1
    have s1 := chain_ser hc (show i + 1 < l.length by omega)
    have s0 := chain_ser hc hi
    refine ⟨?_, ?_⟩
    · rw [h1, List.getElem?_eq_getElem hi]; intro he; injection he with he; rw [he, s0] at s1; omega
    · have : (l.take i ++ l.drop (i + 1)).getD i noS = l[i + 1] := by rw [List.getD_eq_getElem?_getD, h1]; rfl
      rw [this]; exact bad_ser (by rw [s1]; omega)
theorem chg_take {key : Int} {l : List Stp} {ts : List Int} {la now : Int} (hc : Chain key l ts la now) (hl : l.length ≤ 1000) {i : Nat} (hi : i ≤ l.length) : Chg key l (l.take i) i := by
  have hti : (l.take i).length = i := by simp; omega
  exact chg_of hc hl (by omega) (by omega) (fun j hj => by rw [List.getElem?_take, if_pos hj]) (fun h => by omega)
theorem chg_same {key : Int} {l : List Stp} {ts : List Int} {la now : Int} (hc : Chain key l ts la now) (hl : l.length ≤ 1000) : Chg key l l l.length :=
  chg_of hc hl (Nat.le_refl _) (Nat.le_refl _) (fun _ _ => rfl) (fun h => absurd h (Nat.lt_irrefl _))
theorem chg_swap {key : Int} {l : List Stp} {ts : List Int} {la now : Int} (hc : Chain key l ts la now) (hl : l.length ≤ 1000) {i k : Nat} (hi : i < l.length) (hk : k < l.length) :
    ∃ f, Chg key l ((l.set i l[k]).set k l[i]) f := by
  by_cases hik : i = k
  · subst hik
    refine ⟨l.length, ?_⟩
    have : (l.set i l[i]).set i l[i] = l := by simp
    rw [this]; exact chg_same hc hl
  · refine ⟨min i k, ?_⟩
    have si := chain_ser hc hi
    have sk := chain_ser hc hk
    have at_ : ∀ j, ((l.set i l[k]).set k l[i])[j]? = if j = k then some l[i] else if j = i then some l[k] else l[j]? := fun j => by
      by_cases h1 : j = k
      · subst h1; rw [List.getElem?_set_self (by simpa using hk), if_pos rfl]
      · rw [List.getElem?_set_ne (Ne.symm h1), if_neg h1]
        by_cases h2 : j = i
        · subst h2; rw [List.getElem?_set_self hi, if_pos rfl]
        · rw [List.getElem?_set_ne (Ne.symm h2), if_neg h2]
    refine chg_of hc hl (by simp; omega) (by simp) (fun j hj => by rw [at_, if_neg (by omega), if_neg (by omega)]) (fun _ => ?_)
    have hm : ∃ s : Stp, ((l.set i l[k]).set k l[i])[min i k]? = some s ∧ s.ser ≠ ((min i k : Nat) : Int) := by
      rw [at_]
      rcases Nat.lt_or_gt_of_ne hik with h | h
      · rw [Nat.min_eq_left (by omega), if_neg hik, if_pos rfl]; exact ⟨_, rfl, by rw [sk]; omega⟩
      · rw [Nat.min_eq_right (by omega), if_pos rfl]; exact ⟨_, rfl, by rw [si]; omega⟩
    obtain ⟨s, e1, e2⟩ := hm
    have hml : min i k < l.length := by omega
    refine ⟨?_, ?_⟩
    · rw [e1, List.getElem?_eq_getElem hml]; intro he; injection he with he; rw [he] at e2; exact e2 (chain_ser hc hml)
    · have : ((l.set i l[k]).set k l[i]).getD (min i k) noS = s := by rw [List.getD_eq_getElem?_getD, e1]; rfl
      rw [this]; exact bad_ser e2
end Go.Proofs.Ytgmdkjiflhklaaa
