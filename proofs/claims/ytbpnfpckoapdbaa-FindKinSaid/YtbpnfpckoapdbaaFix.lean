/- Kinds that are nested in each other: what holds of the whole nesting holds at some depth; conditions stand at each. -/
import Derived.Test.YtbpnfpckoapdbaaWMore
namespace Go.Proofs.Ytbpnfpckoapdbaa.Fx
open Go.RowKit Go.Proofs.YtbpnfpckoapdbaaW.PrintWords
set_option linter.unusedVariables false
/-- Kinds that rise to L. -/
structure Chain {α : Type} (D : Nat → Kd α) (L : Kd α) : Prop where
  sz : ∀ n, (D n).sz = L.sz
  K : ∀ n m, n ≤ m → ∀ w x cs, (D n).K w x cs → (D m).K w x cs
  M : ∀ n m, n ≤ m → ∀ w base ok x cs, (D n).M w base ok x cs → (D m).M w base ok x cs
  KL : ∀ n w x cs, (D n).K w x cs → L.K w x cs
  ML : ∀ n w base ok x cs, (D n).M w base ok x cs → L.M w base ok x cs
  bK : ∀ w x cs, L.K w x cs → ∃ n, (D n).K w x cs
  bM : ∀ w base ok x cs, L.M w base ok x cs → ∃ n, (D n).M w base ok x cs
theorem chain_fix {α : Type} {F : Kd α → Kd α} {sz : Nat} {E : List Nat} (hm : Kd.Mono F) (hs : ∀ n, (Kd.upto F sz E n).sz = sz) (hE : ∀ n q, q ∈ (Kd.upto F sz E n).E → q ∈ E) : Chain (Kd.upto F sz E) (Kd.fix F sz E hs hE) :=
  ⟨hs, fun n m h w x cs hk => Kd.upto_K_le hm hs h hk, fun n m h w base ok x cs hk => Kd.upto_M_le hm hs h hk, fun n w x cs h => ⟨n, h⟩, fun n w base ok x cs h => ⟨n, h⟩, fun w x cs h => h, fun w base ok x cs h => h⟩
theorem chain_const {α : Type} (k : Kd α) : Chain (fun _ => k) k :=
  ⟨fun _ => rfl, fun _ _ _ _ _ _ h => h, fun _ _ _ _ _ _ _ _ h => h, fun _ _ _ _ h => h, fun _ _ _ _ _ _ h => h, fun _ _ _ h => ⟨0, h⟩, fun _ _ _ _ _ h => ⟨0, h⟩⟩
theorem chain_iso {α β : Type} {D : Nat → Kd α} {L : Kd α} (h : Chain D L) (f : β → α) : Chain (fun n => Kd.iso (D n) f) (Kd.iso L f) :=
  ⟨h.sz, fun n m hnm w x cs => h.K n m hnm w (f x) cs, fun n m hnm w base ok x cs => h.M n m hnm w base ok (f x) cs, fun n w x cs => h.KL n w (f x) cs, fun n w base ok x cs => h.ML n w base ok (f x) cs, fun w x cs => h.bK w (f x) cs, fun w base ok x cs => h.bM w base ok (f x) cs⟩
theorem chain_pair {α β : Type} {D : Nat → Kd α} {L : Kd α} {D' : Nat → Kd β} {L' : Kd β} (h : Chain D L) (h' : Chain D' L') : Chain (fun n => Kd.pair (D n) (D' n)) (Kd.pair L L') := by
  refine ⟨fun n => ?_, ?_, ?_, ?_, ?_, ?_, ?_⟩
  · show (D n).sz + (D' n).sz = L.sz + L'.sz
    rw [h.sz, h'.sz]
  · rintro n m hnm w x cs ⟨c0, c1, rfl, h0, h1⟩
    exact ⟨c0, c1, rfl, h.K n m hnm _ _ _ h0, h'.K n m hnm _ _ _ h1⟩
  · rintro n m hnm w base ok x cs ⟨c0, c1, rfl, h0, h1⟩
    exact ⟨c0, c1, rfl, h.M n m hnm _ _ _ _ _ h0, h'.M n m hnm _ _ _ _ _ h1⟩
  · rintro n w x cs ⟨c0, c1, rfl, h0, h1⟩
    exact ⟨c0, c1, rfl, h.KL n _ _ _ h0, h'.KL n _ _ _ h1⟩
  · rintro n w base ok x cs ⟨c0, c1, rfl, h0, h1⟩
    exact ⟨c0, c1, rfl, h.ML n _ _ _ _ _ h0, h'.ML n _ _ _ _ _ h1⟩
  · rintro w x cs ⟨c0, c1, rfl, h0, h1⟩
    obtain ⟨n, hn⟩ := h.bK _ _ _ h0
    obtain ⟨m, hm⟩ := h'.bK _ _ _ h1
    exact ⟨max n m, c0, c1, rfl, h.K _ _ (Nat.le_max_left _ _) _ _ _ hn, h'.K _ _ (Nat.le_max_right _ _) _ _ _ hm⟩
  · rintro w base ok x cs ⟨c0, c1, rfl, h0, h1⟩
    obtain ⟨n, hn⟩ := h.bM _ _ _ _ _ h0
    obtain ⟨m, hm⟩ := h'.bM _ _ _ _ _ h1
    exact ⟨max n m, c0, c1, rfl, h.M _ _ (Nat.le_max_left _ _) _ _ _ _ _ hn, h'.M _ _ (Nat.le_max_right _ _) _ _ _ _ _ hm⟩
theorem Chain.C {α : Type} {D : Nat → Kd α} {L : Kd α} (h : Chain D L) {n : Nat} {w : World} {A : Option Addr} {m : Nat} {xs : List α} (hc : (D n).C w A m xs) : L.C w A m xs := Kd.C_imp (h.sz n) (fun w x cs => h.KL n w x cs) hc
theorem Chain.R {α : Type} {D : Nat → Kd α} {L : Kd α} (h : Chain D L) {n e : Nat} {w : World} {base : Nat} {ok : Nat → Prop} {v : Value} {xs : List α} (hc : (D n).R e w base ok v xs) : L.R e w base ok v xs := Kd.R_imp (h.sz n) (fun w base ok x cs => h.ML n w base ok x cs) hc
theorem Chain.Cle {α : Type} {D : Nat → Kd α} {L : Kd α} (h : Chain D L) {n m : Nat} (hnm : n ≤ m) {w : World} {A : Option Addr} {l : Nat} {xs : List α} (hc : (D n).C w A l xs) : (D m).C w A l xs := Kd.C_imp (by rw [h.sz, h.sz]) (fun w x cs => h.K n m hnm w x cs) hc
theorem Chain.Rle {α : Type} {D : Nat → Kd α} {L : Kd α} (h : Chain D L) {n m : Nat} (hnm : n ≤ m) {e : Nat} {w : World} {base : Nat} {ok : Nat → Prop} {v : Value} {xs : List α} (hc : (D n).R e w base ok v xs) : (D m).R e w base ok v xs := Kd.R_imp (by rw [h.sz, h.sz]) (fun w base ok x cs => h.M n m hnm w base ok x cs) hc
theorem Chain.Rback {α : Type} {D : Nat → Kd α} {L : Kd α} (h : Chain D L) {e : Nat} {w : World} {base : Nat} {ok : Nat → Prop} {v : Value} {xs : List α} (hr : L.R e w base ok v xs) : ∃ n, (D n).R e w base ok v xs := by
  obtain ⟨h0, inner, ho, hr⟩ := hr
  obtain ⟨N, hN⟩ := Kd.reps_bounded (R := fun n p c => (D n).M w base (fun k => ok k ∧ some k ≠ v.ownBlock) p c) (fun n m p c hnm hp => h.M n m hnm _ _ _ _ _ hp) (hr.imp_ (fun p c hp => h.bM _ _ _ _ _ hp))
  refine ⟨N, h0, inner, ?_, ?_⟩
  · rw [h.sz]; exact ho
  · rw [h.sz]; exact hN
theorem Chain.Cback {α : Type} {D : Nat → Kd α} {L : Kd α} (h : Chain D L) {w : World} {A : Option Addr} {m : Nat} {xs : List α} (hc : L.C w A m xs) : ∃ n, (D n).C w A m xs := by
  rcases Nat.eq_zero_or_pos m with hz | hpos
  · subst hz
    exact ⟨0, hc.1, hc.2.1, fun hp => absurd hp (Nat.lt_irrefl 0)⟩
  · obtain ⟨ad, e, hc1⟩ := hc.2.2 hpos
    obtain ⟨N, hN⟩ := Kd.bounded (P := fun n j => ∀ p, xs[j]? = some p → ∃ c, c.length = L.sz ∧ (D n).K w p c ∧ ∀ i u, c[i]? = some u → w.cell? (ad.add (j * L.sz + i)) = some u)
      (fun n n' j hnm hp p hj => by
        obtain ⟨c, h1, h2, h3⟩ := hp p hj
        exact ⟨c, h1, h.K n n' hnm _ _ _ h2, h3⟩) xs.length
      (fun j hj => by
        obtain ⟨c, h1, h2, h3⟩ := hc1 j _ (List.getElem?_eq_getElem hj)
        obtain ⟨n, h2⟩ := h.bK _ _ _ h2
        refine ⟨n, fun p hp => ?_⟩
        rw [List.getElem?_eq_getElem hj] at hp
        injection hp with hp
        rw [← hp]
        exact ⟨c, h1, h2, h3⟩)
    refine ⟨N, hc.1, hc.2.1, fun _ => ⟨ad, e, fun j p hj => ?_⟩⟩
    rw [h.sz]
    exact hN j (List.getElem?_eq_some_iff.1 hj).1 p hj
theorem chain_slice {α : Type} {D : Nat → Kd α} {L : Kd α} (h : Chain D L) (e : Nat) : Chain (fun n => Kd.slice e (D n)) (Kd.slice e L) := by
  refine ⟨fun n => rfl, ?_, ?_, ?_, ?_, ?_, ?_⟩
  · rintro n m hnm w x cs ⟨A, c, rfl, hl, hr⟩
    exact ⟨A, c, rfl, hl, h.Cle hnm hr⟩
  · rintro n m hnm w base ok x cs ⟨v, rfl, hr⟩
    exact ⟨v, rfl, h.Rle hnm hr⟩
  · rintro n w x cs ⟨A, c, rfl, hl, hr⟩
    exact ⟨A, c, rfl, hl, h.C hr⟩
  · rintro n w base ok x cs ⟨v, rfl, hr⟩
    exact ⟨v, rfl, h.R hr⟩
  · rintro w x cs ⟨A, c, rfl, hl, hr⟩
    obtain ⟨n, hn⟩ := h.Cback hr
    exact ⟨n, A, c, rfl, hl, hn⟩
  · rintro w base ok x cs ⟨v, rfl, hr⟩
    obtain ⟨n, hn⟩ := h.Rback hr
    exact ⟨n, v, rfl, hn⟩
/-- A kind nested in itself is what it is made of. -/
theorem fix_K {α : Type} {F : Kd α → Kd α} {sz : Nat} {E : List Nat} {hs : ∀ n, (Kd.upto F sz E n).sz = sz} {hE : ∀ n q, q ∈ (Kd.upto F sz E n).E → q ∈ E} (hm : Kd.Mono F) {w : World} {x : α} {cs : List Value} (h : (Kd.fix F sz E hs hE).K w x cs) : (F (Kd.fix F sz E hs hE)).K w x cs := by
  obtain ⟨n, h⟩ := h
  cases n with
  | zero => exact h.elim
  | succ n => exact hm.K (Kd.upto F sz E n) (Kd.fix F sz E hs hE) (hs n) (fun w x cs hp => show (Kd.fix F sz E hs hE).K w x cs from ⟨n, hp⟩) _ _ _ h
theorem fix_M {α : Type} {F : Kd α → Kd α} {sz : Nat} {E : List Nat} {hs : ∀ n, (Kd.upto F sz E n).sz = sz} {hE : ∀ n q, q ∈ (Kd.upto F sz E n).E → q ∈ E} (hm : Kd.Mono F) {w : World} {base : Nat} {ok : Nat → Prop} {x : α} {cs : List Value} (h : (Kd.fix F sz E hs hE).M w base ok x cs) : (F (Kd.fix F sz E hs hE)).M w base ok x cs := by
  obtain ⟨n, h⟩ := h
  cases n with
  | zero => exact h.elim
  | succ n => exact hm.M (Kd.upto F sz E n) (Kd.fix F sz E hs hE) (hs n) (fun w base ok x cs hp => show (Kd.fix F sz E hs hE).M w base ok x cs from ⟨n, hp⟩) _ _ _ _ _ h
theorem K_fix {α : Type} {F : Kd α → Kd α} {sz : Nat} {E : List Nat} {hs : ∀ n, (Kd.upto F sz E n).sz = sz} {hE : ∀ n q, q ∈ (Kd.upto F sz E n).E → q ∈ E} (hc : Chain (fun n => F (Kd.upto F sz E n)) (F (Kd.fix F sz E hs hE))) {w : World} {x : α} {cs : List Value} (h : (F (Kd.fix F sz E hs hE)).K w x cs) : (Kd.fix F sz E hs hE).K w x cs := by
  obtain ⟨n, hn⟩ := hc.bK _ _ _ h
  exact ⟨n + 1, hn⟩
theorem M_fix {α : Type} {F : Kd α → Kd α} {sz : Nat} {E : List Nat} {hs : ∀ n, (Kd.upto F sz E n).sz = sz} {hE : ∀ n q, q ∈ (Kd.upto F sz E n).E → q ∈ E} (hc : Chain (fun n => F (Kd.upto F sz E n)) (F (Kd.fix F sz E hs hE))) {w : World} {base : Nat} {ok : Nat → Prop} {x : α} {cs : List Value} (h : (F (Kd.fix F sz E hs hE)).M w base ok x cs) : (Kd.fix F sz E hs hE).M w base ok x cs := by
  obtain ⟨n, hn⟩ := hc.bM _ _ _ _ _ h
  exact ⟨n + 1, hn⟩
end Go.Proofs.Ytbpnfpckoapdbaa.Fx
