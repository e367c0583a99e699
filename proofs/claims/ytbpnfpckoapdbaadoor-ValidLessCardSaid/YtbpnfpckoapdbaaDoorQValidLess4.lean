/- The law ValidLess holds for every input that the row lets in (text 5 of 5; some of it the words and functions that the kit's print and this claim's programs wrote) -/
import Derived.Test.YtbpnfpckoapdbaaDoorQValidLess3
import Derived.Test.YtbpnfpckoapdbaaDoorRows
import Derived.Test.YtbpnfpckoapdbaaDoorTie
import Derived.Test.YtbpnfpckoapdbaaDoorCards
import Derived.WalkKit
import Derived.ProofKit
import Derived.LaidMore
import Derived.OpenShut
import Derived.ShutString
import Derived.ChangeOld
import Derived.Below
import Derived.SizedLaws
import Derived.LaidLaws
import Derived.Lib.LaidU8T
import Derived.SevenTiedAt
import Derived.MakeChecks
import Derived.Lay
section
namespace Go.Proofs.YtbpnfpckoapdbaaDoor.P20
open Go.RowKit Go.Proofs.YtbpnfpckoapdbaaDoorW.PrintWords Go.Proofs.YtbpnfpckoapdbaaDoorW.PrintLast Go.Proofs.YtbpnfpckoapdbaaDoorW.PrintMore Go.Proofs.YtbpnfpckoapdbaaDoor.KD Go.Proofs.YtbpnfpckoapdbaaDoor.M Go.Proofs.YtbpnfpckoapdbaaDoor.PV20 Go.Proofs.YtbpnfpckoapdbaaDoor.Ev Go.Proofs.YtbpnfpckoapdbaaDoor.Ops
set_option linter.unusedVariables false
set_option linter.unusedSimpArgs false
/-- It tells something. -/
def T {α : Type} (g : Nat → Option α) : Prop := ∃ r, E g r
theorem T.const {α : Type} {r : α} : T (fun _ => some r) := ⟨r, E.const⟩
theorem T.step {α : Type} {g : Nat → Option α} (h : T (fun k => g (k + 1))) : T g := ⟨h.choose, E.step h.choose_spec⟩
theorem T.yes {α : Type} {c : Prop} [Decidable c] {g h : Nat → Option α} (hc : c) (hg : T g) : T (fun k => if c then g k else h k) := ⟨hg.choose, E.yes hc hg.choose_spec⟩
theorem T.no {α : Type} {c : Prop} [Decidable c] {g h : Nat → Option α} (hc : ¬ c) (hh : T h) : T (fun k => if c then g k else h k) := ⟨hh.choose, E.no hc hh.choose_spec⟩
theorem T.ite {α : Type} {c : Prop} [Decidable c] {g h : Nat → Option α} (hg : c → T g) (hh : ¬ c → T h) : T (fun k => if c then g k else h k) := by
 by_cases hc : c
 · exact T.yes hc (hg hc)
 · exact T.no hc (hh hc)
theorem T.bind {α β : Type} {f : Nat → Option α} {g : Nat → α → Option β} (hf : T f) (hg : ∀ a, E f a → T (fun k => g k a)) : T (fun k => (f k).bind (g k)) := by
 obtain ⟨a, ha⟩ := hf
 obtain ⟨r, hr⟩ := hg a ha
 exact ⟨r, E.bind ha hr⟩
theorem w1' {i n : Nat} (h : i < n) (hn : n ≤ 140737488351232) : wrap64 ((i : Int) + 1) = ((i + 1 : Nat) : Int) := by unfold wrap64; omega
/-- A schema no greater than a machine's, whole. -/
structure Big (s0 : List SE) (s1 : List SM) : Prop where
 n0 : s0.length ≤ 140737488351232
 n1 : s1.length ≤ 140737488351232
 v0 : ∀ x ∈ s0, x.f1.length ≤ 140737488351232
 f1 : ∀ m ∈ s1, m.f1.length ≤ 140737488351232
theorem rdE_mem {s0 : List SE} {i : Nat} (h : i < s0.length) : rd_T48 s0 (i : Int) ∈ s0 := mem_getD z48 h
theorem rdM_mem {s1 : List SM} {i : Nat} (h : i < s1.length) : rd_T52 s1 (i : Int) ∈ s1 := mem_getD z52 h
theorem small_T {s0 : List SE} {s1 : List SM} (B : Big s0 s1) : T (fun k => ecdysisref15_Small.f k s0 s1) := by
 have l45 := up (C := fun i => T (fun k => ecdysisref15_Small.l4 k (i : Int) s0 s1)) s1.length (fun i hi => by
   refine T.step ?_
   simp only [ecdysisref15_Small.l4]
   exact T.no (by omega) T.const) (fun i hi ih => by
   refine T.step ?_
   simp only [ecdysisref15_Small.l4]
   refine T.yes (by omega) ?_
   have hm := B.f1 _ (rdM_mem hi)
   generalize hx : rd_T52 s1 (i : Int) = x at hm
   have inner := up (C := fun j => T (fun k => ecdysisref15_Small.l5 k (i : Int) (j : Int) s0 s1)) x.f1.length (fun j hj => by
    refine T.step ?_
    simp only [ecdysisref15_Small.l5, hx, w1' hi B.n1]
    exact T.yes (by omega) (T.yes (by omega) (T.no (by omega) ih))) (fun j hj ihj => by
    refine T.step ?_
    simp only [ecdysisref15_Small.l5, hx, w1' hi B.n1, w1' hj hm]
    exact T.yes (by omega) (T.yes (by omega) (T.yes (by omega) (T.yes (by omega) (T.ite (fun _ => T.const) fun _ => T.ite (fun _ => T.const) fun _ => T.ite (fun _ => T.const) fun _ => ihj))))) 0
   exact inner) 0
 have l23 := up (C := fun i => T (fun k => ecdysisref15_Small.l2 k (i : Int) s0 s1)) s0.length (fun i hi => by
   refine T.step ?_
   simp only [ecdysisref15_Small.l2]
   exact T.no (by omega) l45) (fun i hi ih => by
   refine T.step ?_
   simp only [ecdysisref15_Small.l2]
   refine T.yes (by omega) ?_
   have hm := B.v0 _ (rdE_mem hi)
   generalize hx : rd_T48 s0 (i : Int) = x at hm
   have inner := up (C := fun j => T (fun k => ecdysisref15_Small.l3 k (i : Int) (j : Int) s0 s1)) x.f1.length (fun j hj => by
    refine T.step ?_
    simp only [ecdysisref15_Small.l3, hx, w1' hi B.n0]
    exact T.yes (by omega) (T.yes (by omega) (T.no (by omega) ih))) (fun j hj ihj => by
    refine T.step ?_
    simp only [ecdysisref15_Small.l3, hx, w1' hi B.n0, w1' hj hm]
    exact T.yes (by omega) (T.yes (by omega) (T.yes (by omega) (T.yes (by omega) (T.ite (fun _ => T.const) fun _ => ihj))))) 0
   exact inner) 0
 have j3 : ∀ x, T (fun k => ecdysisref15_Small.j3 k x s0 s1) := fun x => by
  refine T.step ?_
  simp only [ecdysisref15_Small.j3]
  exact T.ite (fun _ => T.const) fun _ => l23
 have l1 := up (C := fun i => ∀ x, T (fun k => ecdysisref15_Small.l1 k x (i : Int) s0 s1)) s1.length (fun i hi x => by
   refine T.step ?_
   simp only [ecdysisref15_Small.l1]
   exact T.no (by omega) (j3 x)) (fun i hi ih x => by
   refine T.step ?_
   simp only [ecdysisref15_Small.l1, w1' hi B.n1]
   exact T.yes (by omega) (T.ite (fun _ => T.yes (by omega) (ih _)) fun _ => j3 x)) 0
 have j1 : ∀ x, T (fun k => ecdysisref15_Small.j1 k x s0 s1) := fun x => by
  refine T.step ?_
  simp only [ecdysisref15_Small.j1]
  exact l1 x
 have l0 := up (C := fun i => ∀ x, T (fun k => ecdysisref15_Small.l0 k x (i : Int) s0 s1)) s0.length (fun i hi x => by
   refine T.step ?_
   simp only [ecdysisref15_Small.l0]
   exact T.no (by omega) (j1 x)) (fun i hi ih x => by
   refine T.step ?_
   simp only [ecdysisref15_Small.l0, w1' hi B.n0]
   exact T.yes (by omega) (T.ite (fun _ => T.yes (by omega) (ih _)) fun _ => j1 x)) 0
 exact l0 _
theorem left_T : ∀ (n : Nat) (t : ST), okT n t → ∀ a d, T (fun k => ecdysisref19_left.f k t.f0 t.f1 a d)
 | 0, t, h => h.elim
 | n + 1, t, h => by
  obtain ⟨⟨hl, hx⟩, hre, hr⟩ := h
  rw [reach] at hl hre
  intro a d
  have l1 := up (C := fun i => ∀ a, T (fun k => ecdysisref19_left.l1 k a d (i : Int) t.f0 t.f1)) t.f0.length (fun i hi a => by
   refine T.step ?_
   simp only [ecdysisref19_left.l1]
   refine T.no (by omega) (T.step ?_)
   simp only [ecdysisref19_left.j3]
   exact T.no (by simp) T.const) (fun i hi ih a => by
   have hs := hx _ (mem_getD z43 hi)
   have hrd : rd_T43 t.f0 (i : Int) = t.f0.getD i z43 := rfl
   generalize t.f0.getD i z43 = x at hs hrd
   obtain ⟨_, hvl, hvv⟩ := hs
   rw [reach] at hvl
   have l2 := up (C := fun j => ∀ a, T (fun k => ecdysisref19_left.l2 k a d (i : Int) (j : Int) t.f0 t.f1)) x.f1.length (fun j hj a => by
    refine T.step ?_
    simp only [ecdysisref19_left.l2, hrd]
    refine T.yes (by omega) (T.yes (by omega) (T.no (by omega) (T.step ?_)))
    simp only [ecdysisref19_left.j5, w1' hi (by omega : t.f0.length ≤ 140737488351232)]
    exact T.no (by simp) (ih a)) (fun j hj ihj a => by
    have hv := hvv _ (mem_getD z40 hj)
    have hrv : rd_T40 x.f1 (j : Int) = x.f1.getD j z40 := rfl
    generalize x.f1.getD j z40 = v at hv hrv
    obtain ⟨_, _, hml, hmm⟩ := hv
    rw [reach] at hml
    have l3 := up (C := fun m => ∀ a, T (fun k => ecdysisref19_left.l3 k a d (i : Int) (j : Int) (m : Int) t.f0 t.f1)) v.f2.length (fun m hm a => by
     refine T.step ?_
     simp only [ecdysisref19_left.l3, hrd, hrv, w1' hj (by omega : x.f1.length ≤ 140737488351232)]
     exact T.yes (by omega) (T.yes (by omega) (T.yes (by omega) (T.yes (by omega) (T.no (by omega) (ihj a)))))) (fun m hm ihm a => by
     have ht := hmm _ (mem_getD z29 hm)
     have hrt : rd_T29 v.f2 (m : Int) = v.f2.getD m z29 := rfl
     generalize v.f2.getD m z29 = y at ht hrt
     refine T.step ?_
     simp only [ecdysisref19_left.l3, hrd, hrv, hrt, w1' hj (by omega : x.f1.length ≤ 140737488351232), w1' hm (by omega : v.f2.length ≤ 140737488351232)]
     exact T.yes (by omega) (T.yes (by omega) (T.yes (by omega) (T.yes (by omega) (T.yes (by omega) (T.ite (fun _ => T.yes (by omega) (T.bind (left_T n y ht _ _) fun b _ => ihm b)) fun _ => ihj a)))))) 0
    refine T.step ?_
    simp only [ecdysisref19_left.l2, hrd]
    refine T.yes (by omega) (T.yes (by omega) (T.yes (by omega) (T.step ?_)))
    simp only [ecdysisref19_left.j5, hrd, hrv, w1' hi (by omega : t.f0.length ≤ 140737488351232)]
    exact T.ite (fun _ => T.yes (by omega) (T.yes (by omega) (T.yes (by omega) (T.yes (by omega) (l3 _))))) fun _ => ih a) 0
   refine T.step ?_
   simp only [ecdysisref19_left.l1]
   refine T.yes (by omega) (T.step ?_)
   simp only [ecdysisref19_left.j3, hrd]
   exact T.ite (fun _ => T.yes (by omega) (T.yes (by omega) (l2 _))) fun _ => T.const) 0
  have l0 := up (C := fun i => ∀ a, T (fun k => ecdysisref19_left.l0 k a d (i : Int) t.f0 t.f1)) t.f1.length (fun i hi a => by
   refine T.step ?_
   simp only [ecdysisref19_left.l0]
   refine T.no (by omega) (T.step ?_)
   simp only [ecdysisref19_left.j1]
   exact l1 a) (fun i hi ih a => by
   refine T.step ?_
   simp only [ecdysisref19_left.l0, w1' hi (by omega : t.f1.length ≤ 140737488351232)]
   refine T.yes (by omega) (T.ite (fun _ => T.yes (by omega) (ih _)) fun _ => T.step ?_)
   simp only [ecdysisref19_left.j1]
   exact l1 a) 0
  refine T.step ?_
  show T (fun k => ecdysisref19_left.f (k + 1) _ _ _ _)
  simp only [ecdysisref19_left.f]
  exact T.ite (fun _ => T.const) fun _ => l0 _
theorem small19_T {n : Nat} {t : ST} (h : okT n t) : T (fun k => ecdysisref19_Small.f k t.f0 t.f1) := T.bind (left_T n t h 400 40) fun b _ => T.const
def lvSch : List SM := [⟨⟨#[77]⟩, [⟨⟨#[97]⟩, 1, 1, ⟨#[]⟩, false, false, ⟨#[]⟩⟩], []⟩]
def lvTree (n : Int) : ST := ⟨[⟨1, [⟨n, ⟨#[]⟩, []⟩]⟩], []⟩
theorem lvSc : Sc lvSch := ⟨by decide, fun m hm => by
 obtain rfl := List.mem_singleton.1 hm
 exact ⟨by decide, fun f hf => by obtain rfl := List.mem_singleton.1 hf; decide⟩⟩
theorem lvOk {n : Int} (h : (Lit.int .u64 n).wf = true) : okT 2 (lvTree n) := by
 refine ⟨⟨by show 1 * 32 ≤ _; decide, fun x hx => ?_⟩, by show 0 * 40 ≤ _; decide, fun x hx => by cases hx⟩
 obtain rfl := List.mem_singleton.1 hx
 refine ⟨by show (Lit.int .i64 1).wf = true; decide, by show 1 * 48 ≤ _; decide, fun v hv => ?_⟩
 obtain rfl := List.mem_singleton.1 hv
 exact ⟨h, by show (0 : Nat) ≤ _; decide, by show 0 * 48 ≤ _; decide, fun y hy => by cases hy⟩
theorem lv_B {n : Int} (h : (Lit.int .u64 n).wf = true) (hf : fit32 n = true) : treeB [] lvSch ⟨#[77]⟩ (lvTree n) = decide (n ≠ 0) := by
 have hv : vB [] lvSch ⟨⟨#[97]⟩, 1, 1, ⟨#[]⟩, false, false, ⟨#[]⟩⟩ ⟨n, ⟨#[]⟩, []⟩ = true := by
  refine vB_E ?_
  have h1 := val_v (s0 := []) (s1 := lvSch) (f := ⟨⟨#[97]⟩, 1, 1, ⟨#[]⟩, false, false, ⟨#[]⟩⟩) (v := ⟨n, ⟨#[]⟩, []⟩) (T := fun _ _ => false) (u64_ge h).1 (by show (0 : Nat) ≤ _; decide) (fun t ht => by cases ht)
  have h2 : valB (fun _ _ => false) ⟨⟨#[97]⟩, 1, 1, ⟨#[]⟩, false, false, ⟨#[]⟩⟩ ⟨n, ⟨#[]⟩, []⟩ = true := by
   simp [valB, numB, mayB, wideB, sgnB, hf, ByteArray.toList_eq]
  rw [h2] at h1
  exact h1
 have ha : atM lvSch ⟨#[77]⟩ = 0 := by simp [atM, lvSch, ixF, ByteArray.toList_eq]
 have hm : rd_T52 lvSch 0 = ⟨⟨#[77]⟩, [⟨⟨#[97]⟩, 1, 1, ⟨#[]⟩, false, false, ⟨#[]⟩⟩], []⟩ := rfl
 have hat : atF [⟨⟨#[97]⟩, 1, 1, ⟨#[]⟩, false, false, ⟨#[]⟩⟩] 1 = 0 := by simp [atF, ixF]
 have hfl : fld [⟨⟨#[97]⟩, 1, 1, ⟨#[]⟩, false, false, ⟨#[]⟩⟩] 1 = ⟨⟨#[97]⟩, 1, 1, ⟨#[]⟩, false, false, ⟨#[]⟩⟩ := by unfold fld; rw [hat]; rfl
 unfold treeB
 rw [ha, hm]
 simp only [lvTree, slB, hat, hfl, restB, valsB, oneB, List.all_cons, List.all_nil, hv, okNum, fresh, hidB, ByteArray.toList_eq]
 by_cases hn : n = 0 <;> simp [hn]
theorem live_E : E (fun k => ecdysislaw20_live.f k) true := by
 have h5 := (level (s0 := []) lvSc 2 (lvTree 5) (lvOk (by decide))).2 ⟨#[77]⟩ |>.1
 have h0 := (level (s0 := []) lvSc 2 (lvTree 0) (lvOk (by decide))).2 ⟨#[77]⟩ |>.1
 rw [lv_B (by decide) (by unfold fit32 wrap64; decide)] at h5
 rw [lv_B (by decide) (by unfold fit32 wrap64; decide)] at h0
 unfold ecdysislaw20_live.f
 refine E.bind0 rfl (E.bind h5 (E.yes rfl (E.bind h0 E.const)))
/-- Everything that comes in, no greater than a machine's. -/
structure In (s0 : List SE) (s1 : List SM) : Prop where
 big : Big s0 s1
 sc : Sc s1
theorem In.mk' {s : S25} (h : ok25 s) : In s.f0 s.f1 := by
 obtain ⟨⟨h0, h1⟩, h2, h3⟩ := h
 rw [reach] at h0 h2
 refine ⟨⟨by omega, by omega, fun x hx => ?_, fun m hm => ?_⟩, ⟨by omega, fun m hm => ⟨?_, fun f hf => ?_⟩⟩⟩
 · have := (h1 x hx).2.1
   rw [reach] at this; omega
 · have := (h3 m hm).2.1.1
   rw [reach] at this; omega
 · have := (h3 m hm).2.1.1
   rw [reach] at this; omega
 · have := ((h3 m hm).2.1.2 f hf).2.2.2.2.2.2
   rw [reach] at this; exact this
theorem live_some : E (fun k => (ecdysislaw20_live.f k).bind fun t => some t) true := E.bind live_E E.const
end Go.Proofs.YtbpnfpckoapdbaaDoor.P20
end
section
namespace Go.Proofs.YtbpnfpckoapdbaaDoor.P20
open Go.RowKit Go.Proofs.YtbpnfpckoapdbaaDoorW.PrintWords Go.Proofs.YtbpnfpckoapdbaaDoorW.PrintLast Go.Proofs.YtbpnfpckoapdbaaDoorW.PrintMore Go.Proofs.YtbpnfpckoapdbaaDoor.KD Go.Proofs.YtbpnfpckoapdbaaDoor.M Go.Proofs.YtbpnfpckoapdbaaDoor.PV20 Go.Proofs.YtbpnfpckoapdbaaDoor.Ev Go.Proofs.YtbpnfpckoapdbaaDoor.Ops
set_option linter.unusedVariables false
set_option linter.unusedSimpArgs false
section
variable {s0 : List SE} {s1 : List SM} {fs : List SF}
theorem fresh_less {one : ByteArray} {a b : List ByteArray} (h : fresh one a = true) (hs : ∀ o ∈ b, o ∈ a) : fresh one b = true := by
 unfold fresh at h ⊢
 rw [Bool.or_eq_true] at h ⊢
 rcases h with h | h
 · exact .inl h
 · right
   rw [Bool.not_eq_true', List.any_eq_false] at h ⊢
   exact fun o ho => h o (hs o ho)
theorem slB_relax : ∀ (l : List SS) (p p' : Option Int) (a b : List ByteArray), (∀ n, okNum p n = true → okNum p' n = true) → (∀ o ∈ b, o ∈ a) → slB s0 s1 fs p a l = true → slB s0 s1 fs p' b l = true
 | [], p, p', a, b, hp, hs, h => rfl
 | x :: l, p, p', a, b, hp, hs, h => by
  rw [slB] at h ⊢
  simp only [Bool.and_eq_true] at h ⊢
  obtain ⟨⟨h1, h2, h3⟩, h4, h5⟩ := h
  exact ⟨⟨h1, hp _ h2, h3⟩, fresh_less h4 hs, slB_relax l _ _ _ _ (fun n hn => hn) (fun o ho => by
   rcases List.mem_cons.1 ho with rfl | ho
   · exact List.mem_cons_self
   · exact List.mem_cons_of_mem _ (hs o ho)) h5⟩
theorem slB_strike (x : SS) (b : List SS) : ∀ (a : List SS) (p : Option Int) (ones : List ByteArray), slB s0 s1 fs p ones (a ++ x :: b) = true → slB s0 s1 fs p ones (a ++ b) = true
 | [], p, ones, h => by
  rw [List.nil_append, slB] at h
  simp only [Bool.and_eq_true] at h
  obtain ⟨⟨h1, h2, h3⟩, h4, h5⟩ := h
  refine slB_relax b _ _ _ _ (fun n hn => ?_) (fun o ho => List.mem_cons_of_mem _ ho) h5
  rw [okNum_some, decide_eq_true_eq] at hn
  cases p with
  | none => rfl
  | some q =>
   rw [okNum_some, decide_eq_true_eq] at h2 ⊢
   omega
 | y :: a, p, ones, h => by
  rw [List.cons_append, slB] at h ⊢
  simp only [Bool.and_eq_true] at h ⊢
  exact ⟨h.1, h.2.1, slB_strike x b a _ _ h.2.2⟩
theorem split_at' {α : Type} (z : α) {l : List α} {i : Nat} (h : i < l.length) : l = l.take i ++ l.getD i z :: l.drop (i + 1) := by
 rw [← drop_getD z h, List.take_append_drop]
theorem tree_less1 {name : ByteArray} {t : ST} {i : Nat} (h : i < t.f0.length) (ht : treeB s0 s1 name t = true) : treeB s0 s1 name ⟨([] ++ t.f0.take i) ++ t.f0.drop (i + 1), t.f1⟩ = true := by
 unfold treeB at ht ⊢
 rw [List.nil_append]
 simp only [Bool.and_eq_true] at ht ⊢
 refine ⟨ht.1, slB_strike (t.f0.getD i z43) _ _ _ _ ?_, ht.2.2⟩
 rw [← split_at' _ h]
 exact ht.2.1
theorem tree_less2 {name : ByteArray} {t : ST} {i : Nat} (h : i < t.f1.length) (ht : treeB s0 s1 name t = true) : treeB s0 s1 name ⟨t.f0, ([] ++ t.f1.take i) ++ t.f1.drop (i + 1)⟩ = true := by
 unfold treeB at ht ⊢
 rw [List.nil_append]
 simp only [Bool.and_eq_true] at ht ⊢
 refine ⟨ht.1, ht.2.1, ?_⟩
 have h2 := ht.2.2
 unfold restB at h2 ⊢
 rw [List.all_eq_true] at h2 ⊢
 intro x hx
 refine h2 x ?_
 rcases List.mem_append.1 hx with hx | hx
 · exact List.mem_of_mem_take hx
 · exact List.mem_of_mem_drop hx
theorem tree_none {name : ByteArray} : treeB s0 s1 name ⟨[], []⟩ = decide (atM s1 name ≥ 0) := by
 unfold treeB
 rw [slB, restB]
 simp
theorem ValidLess {name : ByteArray} {t : ST} {n : Nat} (hs : In s0 s1) (ht : okT n t) : ∃ k, ecdysislaw20_ValidLess.f k s0 s1 name t.f0 t.f1 = some true := by
 have hlev := level (s0 := s0) hs.sc n t ht
 obtain ⟨m, rfl⟩ : ∃ m, n = m + 1 := by
  cases n with
  | zero => exact ht.elim
  | succ m => exact ⟨m, rfl⟩
 have hh := ht
 obtain ⟨⟨hl, _⟩, hre, hrr⟩ := hh
 rw [reach] at hl hre
 have same : E (fun k => ecdysislaw20_ValidLess.j0 k name false s0 s1 t.f0 t.f1) true := by
  have hnone : E (fun k => valid_Tree.f k s0 s1 name [] []) (decide (atM s1 name ≥ 0)) := by
   rw [← tree_none]
   exact tree_v (t := ⟨[], []⟩) hs.sc (by show (0 : Nat) ≤ _; decide) (fun x hx => by cases hx)
  refine E.step ?_
  simp only [ecdysislaw20_ValidLess.j0]
  refine E.no (by simp) (E.bind hnone (E.bind (a := atM s1 name) (message_E s0 s1 name hs.sc.n) (E.no (by simp) (E.bind (hlev.2 name).1 ?_))))
  cases hv : treeB s0 s1 name t with
  | false => exact E.no (by simp) live_some
  | true =>
   refine E.yes rfl ?_
   have l1 := up (C := fun i => E (fun k => ecdysislaw20_ValidLess.l1 k name (i : Int) s0 s1 t.f0 t.f1) true) t.f1.length (fun i hi => by
    refine E.step ?_
    simp only [ecdysislaw20_ValidLess.l1]
    exact E.no (by omega) live_some) (fun i hi ih => by
    refine E.step ?_
    simp only [ecdysislaw20_ValidLess.l1, w1' hi (by omega : t.f1.length ≤ 140737488351232), Int.toNat_natCast, Option.bind_some, List.length_append, List.length_take, List.length_drop, List.length_nil]
    refine E.yes (by omega) (E.yes (by omega) (E.yes (by omega) (E.yes (by omega) (E.yes (by omega) (E.yes (by omega) (E.yes (by omega) (E.bind (a := true) ?_ (E.yes rfl ih))))))))
    have h3 := tree_v (s0 := s0) (name := name) (t := ⟨t.f0, ([] ++ t.f1.take i) ++ t.f1.drop (i + 1)⟩) hs.sc (by show t.f0.length ≤ _; omega) hlev.1
    rw [tree_less2 hi hv] at h3
    exact h3) 0
   have l0 := up (C := fun i => E (fun k => ecdysislaw20_ValidLess.l0 k name (i : Int) s0 s1 t.f0 t.f1) true) t.f0.length (fun i hi => by
    refine E.step ?_
    simp only [ecdysislaw20_ValidLess.l0]
    exact E.no (by omega) l1) (fun i hi ih => by
    refine E.step ?_
    simp only [ecdysislaw20_ValidLess.l0, w1' hi (by omega : t.f0.length ≤ 140737488351232), Int.toNat_natCast, Option.bind_some, List.length_append, List.length_take, List.length_drop, List.length_nil]
    refine E.yes (by omega) (E.yes (by omega) (E.yes (by omega) (E.yes (by omega) (E.yes (by omega) (E.yes (by omega) (E.yes (by omega) (E.bind (a := true) ?_ (E.yes rfl ih))))))))
    have h3 := tree_v (s0 := s0) (name := name) (t := ⟨([] ++ t.f0.take i) ++ t.f0.drop (i + 1), t.f1⟩) hs.sc (by show (([] ++ t.f0.take i) ++ t.f0.drop (i + 1)).length ≤ _; simp only [List.length_append, List.length_take, List.length_drop, List.length_nil]; omega) (fun x hx => hlev.1 x (by
     rcases List.mem_append.1 hx with hx | hx
     · exact List.mem_of_mem_take hx
     · exact List.mem_of_mem_drop hx))
    rw [tree_less1 hi hv] at h3
    exact h3) 0
   exact l0
 have other : E (fun k => ecdysislaw20_ValidLess.j0 k name true s0 s1 t.f0 t.f1) true := by
  refine E.step ?_
  simp only [ecdysislaw20_ValidLess.j0]
  exact E.yes trivial live_some
 obtain ⟨b, hb⟩ := small_T hs.big
 obtain ⟨c, hc⟩ := small19_T ht
 refine E.get ?_
 refine E.bind hb ?_
 cases b with
 | false => exact E.no (by simp) other
 | true =>
  refine E.yes rfl (E.bind hc ?_)
  cases c with
  | false => exact other
  | true => exact same
end
end Go.Proofs.YtbpnfpckoapdbaaDoor.P20
end
section
namespace Go.Proofs.YtbpnfpckoapdbaaDoor.validLess
open Go.ChangeShapes Go.WideShapes Go.ChangeAt Go.RowKit Go.Lib
open Go.ChangeMaps (open_string shut_string)
open Go.Proofs.YtbpnfpckoapdbaaDoor.KD Go.Proofs.YtbpnfpckoapdbaaDoorW.PrintWords
set_option linter.unusedVariables false
theorem own : ownKnob Tryd.prog.godebug = none := by kernel_rfl
theorem laidOut : laidOutB Tryd.prog = true := by kernel_rfl
theorem first_is : Rows.laid_unicode_utf8_first = Lib.firstData := by kernel_rfl
theorem accept_is : (Rows.laid_unicode_utf8_acceptRanges : DataW Unit) = Lib.acceptData := by kernel_rfl
/-- What the condition gives the walks: the tables. -/
theorem tabs {W : World} (h : laidMetH Tryd.prog Rows.validLessRow.laid W) : M.Tabs W := by
 rw [MakeChecks.laidMetH_plain _ _ _ (by kernel_rfl)] at h
 exact utf8Tabs_of_readsT (U8Types.of196 Tryd.laysValid) ⟨by kernel_rfl, by kernel_rfl, by kernel_rfl, by kernel_rfl, by kernel_rfl, by kernel_rfl, by kernel_rfl⟩
  (first_is ▸ Lib.laidMet.reads h (.tail _ (.head _))) (accept_is ▸ Lib.laidMet.reads h (.head _))
set_option maxRecDepth 100000 in
theorem lifted (os : Os) (started : os.Started) (H : Type) (enc : TypeId × Value → H) :
  ReturnsInHanded {} Tryd.checked os 4 .any (fun w args => (Rows.validLessSpec.pre enc Tryd.prog Tryd.f4 Rows.validLessRow.domain false w args ∧ laidMetH Tryd.prog Rows.validLessRow.laid w) ∧ sizedMet enc Tryd.prog Tryd.f4 (OpenSpec.ofChange Rows.validLessSpec) false w args) (Rows.validLessSpec.post enc Tryd.prog Tryd.f4 false true false false) := by
 refine returnsInHanded_of_change_and (C := Tryd.checked) (X := fun w _ => laidMetH Tryd.prog Rows.validLessRow.laid w) (fun _ _ _ hh h => h.of_heap hh) own started (by kernel_rfl) Tryd.func4
  (ChangeSpec.witness_shaped (enc := enc) (C := Tryd.checked) (os := os) (X := fun w _ => laidMetH Tryd.prog Rows.validLessRow.laid w) false (World.laidAll Tryd.prog os Rows.validLessRow.laid) #[.agg #[.slice none 0 0, .slice none 0 0], .string ByteArray.empty, .agg #[.slice none 0 0, .slice none 0 0]] 8 (World.laidAll_os _ _ _)
   (World.shaped_of_ZipB (by kernel_rfl) (by kernel_rfl)) (by kernel_rfl) (by kernel_rfl) (by kernel_rfl)
   (by rw [MakeChecks.laidMetH_plain _ _ _ (by kernel_rfl)]; exact laidMet_laidAll _ (by kernel_rfl) (by kernel_rfl))) ?_
 intro W base args ds gs before hval0 hW hcnd hsz0 hL _
 have hT := tabs hL
 have hsz : (DataW.weightsEach Tryd.prog (Tryd.f4.params.toList ++ Rows.validLessSpec.plain.varTypes Tryd.prog) (ds ++ gs)).all (· ≤ reachBytes) = true := hsz0
 have hval : ∀ (j : Nat) t v, Tryd.f4.params[j]? = some t → args[j]? = some v → Value.okWide Tryd.prog W .any base t v := hval0
 have hW' := hW
 obtain ⟨p, q, hA0, hV, rfl, hfz, hnd⟩ := hW
 have hA : DataW.TrodAll enc Tryd.prog W 0 (fun _ => true) true Tryd.f4.params.toList args.toList ds p := hA0
 rw [Tryd.params4] at hA hval hsz
 obtain ⟨v0, vs0, d0, ds0, p0, q0, hargs, rfl, rfl, h0, r0⟩ := trodAll_cons hA
 obtain ⟨v1, vs1, d1, ds1, p1, q1, rfl, rfl, rfl, h1, r1⟩ := trodAll_cons r0
 obtain ⟨v2, vs2, d2, ds2, p2, q2, rfl, rfl, rfl, h2, r2⟩ := trodAll_cons r1
 obtain ⟨rfl, rfl, rfl⟩ := trodAll_nil r2
 obtain rfl : args = #[v0, v1, v2] := by cases args; simp_all
 obtain ⟨rfl, rfl⟩ := trodVars_none hV
 obtain ⟨cs0, rfl, _⟩ := okWide_struct Tryd.underlying25 (hval 0 25 v0 rfl rfl)
 have k0 := h0
 have lt0 : ∀ x ∈ p0, x.block < W.heap.size := by obtain ⟨m, hm⟩ := k0; exact DataW.trod_lt m _ _ _ hm
 have li0 : Open.Light Tryd.prog 25 d0 := fun n hn => by simpa using List.all_eq_true.1 hsz n (DataW.weights_mem_each (j := 0) rfl rfl n hn)
 obtain ⟨fu0, hf0⟩ := h0
 obtain ⟨y0, hk0, w0⟩ := Ops.opens25 fu0 _ enc W 0 (fun _ => true) true _ _ hf0 li0
 have ec0 : (Value.agg cs0).cells.toList.toArray = cs0 := by simp [Value.cells]
 obtain ⟨A0_0, c0_0, A0_1, c0_1, hcs0, hl0_0, hc0_0, hl0_1, hc0_1⟩ := k25_open hk0
 rw [hcs0] at ec0
 obtain ⟨a1, rfl, rfl, rfl, y1⟩ := open_string Tryd.underlying9 (hval 1 9 v1 rfl rfl) h1
 obtain ⟨cs2, rfl, _⟩ := okWide_struct Tryd.underlying29 (hval 2 29 v2 rfl rfl)
 have k2 := h2
 have lt2 : ∀ x ∈ p2, x.block < W.heap.size := by obtain ⟨m, hm⟩ := k2; exact DataW.trod_lt m _ _ _ hm
 have li2 : Open.Light Tryd.prog 29 d2 := fun n hn => by simpa using List.all_eq_true.1 hsz n (DataW.weights_mem_each (j := 2) rfl rfl n hn)
 obtain ⟨fu2, hf2⟩ := h2
 obtain ⟨y2, hk2, w2⟩ := Ops.opensT fu2 fu2 (Nat.le_refl _) _ enc W 0 (fun _ => true) true _ _ hf2 li2
 have ec2 : (Value.agg cs2).cells.toList.toArray = cs2 := by simp [Value.cells]
 obtain ⟨A2_0, c2_0, A2_1, c2_1, hcs2, hl2_0, hc2_0, hl2_1, hc2_1⟩ := k29_open hk2
 rw [hcs2] at ec2
 clear hA0 hval0 hsz0 hsz hL
 obtain ⟨k, hP⟩ := (P20.ValidLess (name := a1) (P20.In.mk' w0) w2)
 have hcall := PV20.ecdysislaw20_ValidLess.calls k A0_0 c0_0 y0.f0 A0_1 c0_1 y0.f1 a1 (fun _ => True) A2_0 c2_0 y2.f0 A2_1 c2_1 y2.f1 true W hT hc0_0 hl0_0 hc0_1 hl0_1 (Kd.V_mk hl2_0 (fun W2 hW2 => Kd.Heap.C k43_heap (fun k_ hk_ => hW2 k_ trivial hk_) hc2_0)) hc2_1 hl2_1 hP
 have ec0' := ec0.symm
 subst ec0'
 have ec2' := ec2.symm
 subst ec2'
 refine hcall.mono fun e W' ⟨he, bel0⟩ => ?_
 have bel : Below W.heap.size W W' := bel0
 subst he
 exact ⟨_, rfl, _, _, _, [], _, [], hW', trodAll_mk1 (shut_bool Tryd.underlying4 _), (trodAll_cons_mk (Below.trod laidOut (by kernel_rfl) (of_decide_eq_true (by kernel_rfl)) k0 bel lt0) (trodAll_cons_mk (shut_string Tryd.underlying9 y1) (trodAll_cons_mk (Below.trod laidOut (by kernel_rfl) (of_decide_eq_true (by kernel_rfl)) k2 bel lt2) trodAll_mk0))), rfl, bel.frame _, fun h => by cases h⟩
theorem over : Rows.validLessRow.holds Tryd.pinned (OpenSpec.ofChange Rows.validLessSpec) :=
 OpenClaim.holds_of_wide 4 Tryd.f4 rfl rfl rfl rfl rfl rfl rfl ⟨rfl, rfl, rfl, rfl, rfl⟩ rfl rfl rfl rfl rfl (by kernel_rfl) Tryd.func4 (by kernel_rfl)
  (of_decide_eq_true (by kernel_rfl)) (by unfold Func.isWrapper; first | (rw [if_pos (by decide +kernel)]; kernel_rfl) | (rw [if_neg (by decide +kernel)]; exact ⟨rfl, rfl⟩))
  (fun os started H enc _ => lifted os started H enc)
theorem proved : Rows.ValidLessSaid := over
theorem card_proved : Rows.ValidLessCardSaid :=
 Claim7.holds_tied_plain_at .later [] [.data, .pinned] true Rows.validLessCard.stood.harness false
  over (fun _ h => by cases h) (by kernel_rfl) (fun _ h => by cases h) validLess_row_tie rfl ⟨rfl, rfl⟩ (by kernel_rfl) rfl
  (fun f fn hf hfn => by
   obtain rfl : f = 4 := Option.some.inj ((show Tryd.prog.funcNamed Rows.validLessRow.func = some 4 by kernel_rfl).symm.trans hf) |>.symm
   obtain rfl : fn = Tryd.f4 := (Option.some.inj (Tryd.func4.symm.trans hfn)).symm
   exact ⟨by kernel_rfl, fun j t ht => by
    rw [Tryd.params4] at ht
    have hm : t ∈ [25, 9, 29] := by simpa using Array.mem_of_getElem? ht
    have hall : ([25, 9, 29].all fun u => !Tryd.prog.wantsStandIn u) = true := by kernel_rfl
    exact (show Tryd.prog.wantsStandIn t = false by simpa using List.all_eq_true.1 hall t hm)⟩)
  (by kernel_rfl)
#print axioms card_proved
end Go.Proofs.YtbpnfpckoapdbaaDoor.validLess
namespace Go.Proofs.YtbpnfpckoapdbaaDoor
/-- The tied card, under a short name, for the claim. -/
theorem validLess_holds : Rows.ValidLessCardSaid := validLess.card_proved
end Go.Proofs.YtbpnfpckoapdbaaDoor
end
