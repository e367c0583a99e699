/- raw: the way through bytes, field by field; what an iterator over a cursor keeps; conditions stand at each. -/
import Derived.Test.YtfbmabhdjliohaaMRawN
import Derived.Test.YtfbmabhdjliohaaMRange
import Derived.Test.YtfbmabhdjliohaaPRawx
namespace Go.Proofs.Ytfbmabhdjliohaa.Cur
open Go.RowKit Go.Proofs.YtfbmabhdjliohaaW.PrintWords Go.Proofs.YtfbmabhdjliohaaW.PrintLast Go.Proofs.YtfbmabhdjliohaaW.PrintMore Go.Proofs.Ytfbmabhdjliohaa.Var
set_option linter.unusedSimpArgs false
set_option linter.unusedVariables false
/-- All fields of bytes. -/
def par (b : List Int) : List (Fd × Nat) × Bool := pgD (b.length + 1) b
/-- l has been read, up to place p. -/
def Way (b : List Int) (l : List (Fd × Nat)) (p : Nat) : Prop := p ≤ b.length ∧ l.length ≤ p ∧ ∀ k, pgD (l.length + k) b = (l ++ (pgD k (b.drop p)).1, (pgD k (b.drop p)).2)
theorem Way.start (b : List Int) : Way b [] 0 := ⟨by omega, by simp, fun k => by simp⟩
theorem Way.step {b : List Int} {l : List (Fd × Nat)} {p s : Nat} {x : Fd} (h : Way b l p) (hp : p < b.length) (h1 : oneD (b.drop p) = some (x, s)) (hs : 1 ≤ s) (hps : p + s ≤ b.length) : Way b (l ++ [(x, s)]) (p + s) := by
  have hn : b.drop p ≠ [] := by intro e; have := congrArg List.length e; rw [List.length_drop, List.length_nil] at this; omega
  refine ⟨hps, by rw [List.length_append, List.length_singleton]; have := h.2.1; omega, fun k => ?_⟩
  have hk := h.2.2 (k + 1)
  rw [pg_some hn h1, List.drop_drop] at hk
  rw [List.length_append, List.length_singleton, Nat.add_assoc, Nat.add_comm 1 k, hk, List.append_assoc]
  rfl
theorem Way.done {b : List Int} {l : List (Fd × Nat)} {p : Nat} (h : Way b l p) (hp : b.length ≤ p) : par b = (l, true) := by
  have h1 := h.2.2 (b.length + 1 - l.length)
  have h2 := h.1
  have h3 := h.2.1
  rw [show l.length + (b.length + 1 - l.length) = b.length + 1 by omega, List.drop_eq_nil_of_le hp, pg_nil] at h1
  unfold par
  rw [h1, List.append_nil]
theorem Way.fail {b : List Int} {l : List (Fd × Nat)} {p : Nat} (h : Way b l p) (hp : p < b.length) (h1 : oneD (b.drop p) = none) : par b = (l, false) := by
  have hn : b.drop p ≠ [] := by intro e; have := congrArg List.length e; rw [List.length_drop, List.length_nil] at this; omega
  have h2 := h.2.2 (b.length - l.length + 1)
  have h3 := h.2.1
  rw [show l.length + (b.length - l.length + 1) = b.length + 1 by omega, pg_none hn h1, List.append_nil] at h2
  exact h2
theorem Way.pre {b : List Int} {l : List (Fd × Nat)} {p : Nat} (h : Way b l p) : l <+: (par b).1 := by
  have h1 := h.2.2 (b.length + 1 - l.length)
  have h2 := h.1
  have h3 := h.2.1
  rw [show l.length + (b.length + 1 - l.length) = b.length + 1 by omega] at h1
  unfold par
  rw [h1]
  exact List.prefix_append _ _
/-- Whatever is cells lies as it lay. -/
def CK (W W' : World) : Prop := W.heap.size ≤ W'.heap.size ∧ ∀ (i : Nat) (cs : Array Value) (t : TypeId) (fr : Nat × Nat), W.heap[i]? = some (.cells cs t fr) → W'.heap[i]? = some (.cells cs t fr)
theorem CK.putObj {W : World} {l : Nat} {o : Obj} (o' : Obj) (h : W.heap[l]? = some o) (ho : o.isCells = false) : CK W (W.putObj l o') :=
  ⟨by simp, fun i cs t fr hi => (World.putObj_heap_other (fun e => by subst e; rw [h] at hi; cases hi; cases ho)).trans hi⟩
theorem CK.alloc (W : World) (o : Obj) : CK W (W.alloc o) := ⟨by rw [World.size_alloc]; omega, fun i cs t fr hi => blk_alloc hi o⟩
theorem C_ck {α : Type} {d : Kd α} {W W' : World} {A : Option Addr} {n : Nat} {xs : List Int} (h : Kd.C (Kd.int .u8) W A n xs) (hk : CK W W') : Kd.C (Kd.int .u8) W' A n xs := by
  refine C_move h (fun ad ha hn => ?_)
  obtain ⟨ad', ha', hc⟩ := (Kd.reads_of_C (enc := Value.int .u8) (d := (0 : Int)) (h1 := fun _ => rfl) h).2.2 hn
  rw [ha] at ha'
  injection ha' with ha'
  subst ha'
  have h0 := hc 0 hn
  obtain ⟨o, ho, hco⟩ := cells_of_cell h0
  rw [show (ad.add 0).block = ad.block by unfold Addr.add; rfl] at ho
  cases o with
  | cells cs t fr => rw [ho]; exact hk.2 _ _ _ _ ho
  | _ => cases hco
theorem own_ck {W W' : World} {base : Nat} {e : TypeId} {size n : Nat} {v : Value} {xs : List Value} (h : W.ownsRow base e size v n xs) (hk : CK W W') : W'.ownsRow base e size v n xs := by
  refine own_move h (fun j hj => ?_)
  rcases h.2 with ⟨rfl, _⟩ | ⟨g, cap, cur, rfl, hb, hh, _⟩
  · simp [Value.ownBlock] at hj
  · have hg : g = j := by simpa [Value.ownBlock] using hj
    subst hg
    rw [hh]
    exact hk.2 _ _ _ _ hh
theorem IsC.ck {W W' : World} {B g : Nat} {A : Option Addr} {c : Nat} {b : List Int} {p : Int} {v : Value} {ends : List Int} (h : IsC W B g A c b p v ends) (hk : CK W W') : IsC W' B g A c b p v ends := by
  refine ⟨hk.2 _ _ _ _ h.blk, ?_, C_ck (d := Kd.int .u8) h.rd hk, h.lc, h.ge, h.ap⟩
  obtain ⟨h0, inner, ho, hr⟩ := h.row
  exact ⟨h0, inner, own_ck ho hk, hr.imp_ (fun _ _ hp => hp)⟩
/-- A cursor's call leaves whatever is no cells. -/
theorem IsC.others {W W' : World} {B g : Nat} {A : Option Addr} {c : Nat} {b : List Int} {p : Int} {v v' : Value} {ends : List Int} (h : IsC W B g A c b p v ends) (f : Fr W W' g v v') : KeepsOthers W W' := by
  refine ⟨f.1.1, fun k o hk ho => ?_⟩
  refine f.blk hk (fun e => ?_) (fun e => ?_)
  · subst e; rw [h.blk] at hk; cases hk; cases ho
  · obtain ⟨A2, c2, rfl⟩ := Kd.R_slice h.row
    obtain ⟨h0, inner, hw, hr⟩ := h.row
    rcases hw.2 with ⟨he, _⟩ | ⟨g2, cap, cur, he, hb, hh, _⟩
    · rw [he] at e; simp [Value.ownBlock] at e
    · rw [he] at e
      have hg : g2 = k := by simpa [Value.ownBlock] using e
      subst hg
      rw [hh] at hk; cases hk; cases ho
theorem Drawn0.others {W W' : World} (h : Drawn0 W W') : KeepsOthers W W' := by
  obtain ⟨n, rfl⟩ := h
  exact ⟨Nat.le_refl _, fun _ _ h _ => h⟩
theorem Drawn0.ck {W W' : World} (h : Drawn0 W W') : CK W W' := by
  obtain ⟨n, rfl⟩ := h
  exact ⟨Nat.le_refl _, fun _ _ _ _ h => h⟩
/-- A field as the print's struct. -/
def s46 (x : Fd) : PRaw.S46 := ⟨x.1, x.2.1, x.2.2.1, strOfNums x.2.2.2⟩
theorem s46_cells (x : Fd) : (fdV x) = .agg #[.int .i64 (s46 x).f0, .int .i64 (s46 x).f1, .int .u64 (s46 x).f2, .string (s46 x).f3] := rfl
end Go.Proofs.Ytfbmabhdjliohaa.Cur
