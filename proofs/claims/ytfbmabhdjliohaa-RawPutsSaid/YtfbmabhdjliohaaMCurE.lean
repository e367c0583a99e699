/- The cursor and the reference's side by side, and what the law's read and like do with them; conditions stand at each. -/
import Derived.Test.YtfbmabhdjliohaaMCurD
namespace Go.Proofs.Ytfbmabhdjliohaa.Cur
open Go.RowKit Go.Proofs.YtfbmabhdjliohaaW.PrintWords Go.Proofs.YtfbmabhdjliohaaW.PrintLast Go.Proofs.YtfbmabhdjliohaaW.PrintMore Go.Proofs.Ytfbmabhdjliohaa.Var
set_option maxHeartbeats 1000000
set_option maxRecDepth 100000
set_option linter.unusedSimpArgs false
/-- The cursor at g, the reference's at gm: of the same bytes, their memory apart. -/
structure Two (w : World) (B g gm : Nat) (A Am : Option Addr) (c cm : Nat) (b : List Int) (p : Int) (v : Value) (ends : List Int) (pm : Int) (vm : Value) (em : List Int) (N : Nat) : Prop where
  C : IsC w B g A c b p v ends
  M : IsM w B gm Am cm b pm vm em
  ap : ∀ k, v.ownBlock = some k → vm.ownBlock ≠ some k
  hB : B ≤ w.heap.size
  iC : Inv b.length p ends
  iM : Inv b.length pm em
  hb : ∀ x ∈ b, 0 ≤ x ∧ x ≤ 255
  hl : b.length ≤ 140737488359000
  eC : ends.length ≤ N
  eM : em.length ≤ N
theorem typed_ne {w : World} {B g k t : Nat} {v : Value} {ends : List Int} {cells : Array Value} {ok : Nat → Prop} (hr : Kd.R (Kd.int .i64) 3 w B ok v ends) (hb : w.heap[g]? = some (.cells cells t (0, 0))) (ht : t ≠ 3) (hk : v.ownBlock = some k) : k ≠ g := by
  rintro rfl
  obtain ⟨_, inner, ho, _⟩ := hr
  obtain ⟨cs, hc⟩ := own_typed ho k hk
  rw [hb] at hc
  injection hc with hc
  injection hc with _ hc
  exact ht hc
theorem own_bounds {w : World} {B k : Nat} {v : Value} {ends : List Int} {ok : Nat → Prop} (hr : Kd.R (Kd.int .i64) 3 w B ok v ends) (hk : v.ownBlock = some k) : B ≤ k ∧ k < w.heap.size := by
  obtain ⟨_, inner, ho, _⟩ := hr
  exact ⟨own_base ho k hk, own_lt ho k hk⟩
section
variable {w : World} {B g gm : Nat} {A Am : Option Addr} {c cm : Nat} {b : List Int} {p : Int} {v : Value} {ends : List Int} {pm : Int} {vm : Value} {em : List Int} {N : Nat} {w' : World}
theorem Two.gne (T : Two w B g gm A Am c cm b p v ends pm vm em N) : g ≠ gm := by
  rintro rfl
  have h1 := T.C.blk
  rw [T.M.blk] at h1
  injection h1 with h1
  injection h1 with _ h1
  exact absurd h1 (by decide)
theorem R_frame {B g' : Nat} {v0 v1 u : Value} {e0 : List Int} {ok : Nat → Prop} (h : Kd.R (Kd.int .i64) 3 w B ok u e0) (f : Fr w w' g' v0 v1) (h1 : ∀ k, u.ownBlock = some k → k ≠ g') (h2 : ∀ k, u.ownBlock = some k → v0.ownBlock ≠ some k) : Kd.R (Kd.int .i64) 3 w' B ok u e0 := by
  obtain ⟨h0, inner, ho, hr⟩ := h
  refine ⟨h0, inner, own_move ho (fun j hj => f.1.2 j (own_lt ho j hj) (h1 j hj) (fun he => h2 j hj he.symm)), hr.imp_ (fun _ _ hp => hp)⟩
theorem Two.movedC {p' : Int} {ends' : List Int} {N' : Nat} (T : Two w B g gm A Am c cm b p v ends pm vm em N) (h : Moved w B g A c b v p' ends' w') (hi : Inv b.length p' ends') (hN : N ≤ N') (hl : ends'.length ≤ N') : ∃ v', Two w' B g gm A Am c cm b p' v' ends' pm vm em N' ∧ Below B w w' := by
  obtain ⟨v', hC, f⟩ := h
  have hbel : Below B w w' := f.below T.hB T.C.ge (fun k hk => (own_bounds T.C.row hk).1)
  have hgm := blk_lt T.M.blk
  refine ⟨v', ⟨hC, ⟨(f.1.2 gm hgm T.gne.symm (fun he => typed_ne T.C.row T.M.blk (by decide) he.symm rfl)).trans T.M.blk, R_frame T.M.row f (fun k hk => typed_ne T.M.row T.C.blk (by decide) hk) (fun k hk he => T.ap k he hk), C_move T.M.rd (fun ad h1 h2 => hbel.block _ (T.M.ap ad h1 h2)), T.M.lc, T.M.ge, T.M.ap⟩, ?_, Nat.le_trans T.hB hbel.size, hi, T.iM, T.hb, T.hl, hl, Nat.le_trans T.eM hN⟩, hbel⟩
  intro k hk he
  rcases f.2.2 with e | e | ⟨k', e, hk'⟩
  · rw [e] at hk; cases hk
  · rw [e] at hk; exact T.ap k hk he
  · rw [e] at hk
    injection hk with hk
    have := (own_bounds T.M.row he).2
    omega
theorem Two.movedM {p' : Int} {ends' : List Int} {N' : Nat} (T : Two w B g gm A Am c cm b p v ends pm vm em N) (h : MovedM w B gm Am cm b vm p' ends' w') (hi : Inv b.length p' ends') (hN : N ≤ N') (hl : ends'.length ≤ N') : ∃ v', Two w' B g gm A Am c cm b p v ends p' v' ends' N' ∧ Below B w w' := by
  obtain ⟨v', hC, f⟩ := h
  have hbel : Below B w w' := f.below T.hB T.M.ge (fun k hk => (own_bounds T.M.row hk).1)
  have hgm := blk_lt T.C.blk
  refine ⟨v', ⟨⟨(f.1.2 g hgm T.gne (fun he => typed_ne T.M.row T.C.blk (by decide) he.symm rfl)).trans T.C.blk, R_frame T.C.row f (fun k hk => typed_ne T.C.row T.M.blk (by decide) hk) (fun k hk he => T.ap k hk he), C_move T.C.rd (fun ad h1 h2 => hbel.block _ (T.C.ap ad h1 h2)), T.C.lc, T.C.ge, T.C.ap⟩, hC, ?_, Nat.le_trans T.hB hbel.size, T.iC, hi, T.hb, T.hl, Nat.le_trans T.eC hN, hl⟩, hbel⟩
  intro k hk he
  rcases f.2.2 with e | e | ⟨k', e, hk'⟩
  · rw [e] at he; cases he
  · rw [e] at he; exact T.ap k hk he
  · rw [e] at he
    injection he with he
    have := (own_bounds T.C.row hk).2
    omega
theorem Two.drawn (T : Two w B g gm A Am c cm b p v ends pm vm em N) (hd : Drawn0 w w') : Two w' B g gm A Am c cm b p v ends pm vm em N := by
  have hb : Below B w w' := by
    obtain ⟨n, rfl⟩ := hd
    exact pw_below_drewN (Below.refl _ _) n
  exact ⟨T.C.drawn hd, T.M.drawn hd, T.ap, Nat.le_trans T.hB hb.size, T.iC, T.iM, T.hb, T.hl, T.eC, T.eM⟩
theorem Drawn0.bel {B : Nat} (hd : Drawn0 w w') : Below B w w' := by
  obtain ⟨n, rfl⟩ := hd
  exact pw_below_drewN (Below.refl _ _) n
end
/-- Where a cursor is when 'what' has been read. -/
def rdS (what : Int) (b : List Int) (p : Int) (ends : List Int) : Int × List Int :=
  if what = 0 then nx p ends (vD b p ends).2 else if what = 1 then nx p ends (fD 4 b p ends).2 else if what = 2 then nx p ends (fD 8 b p ends).2 else if what = 3 then (txt b p ends).2 else if what = 4 then (tg b p ends).2 else if what = 5 then (op b p ends).2 else if what = 6 then (cl p ends).2 else (p, ends)
theorem nx_len (p : Int) (ends : List Int) (s : Int) : (nx p ends s).2.length ≤ ends.length := by
  unfold nx
  split
  · simp
  · simp
section
variable {b : List Int} {p : Int} {ends : List Int}
theorem rd0 : rdS 0 b p ends = nx p ends (vD b p ends).2 := rfl
theorem rd1 : rdS 1 b p ends = nx p ends (fD 4 b p ends).2 := rfl
theorem rd2 : rdS 2 b p ends = nx p ends (fD 8 b p ends).2 := rfl
theorem rd3 : rdS 3 b p ends = (txt b p ends).2 := rfl
theorem rd4 : rdS 4 b p ends = (tg b p ends).2 := rfl
theorem rd5 : rdS 5 b p ends = (op b p ends).2 := rfl
theorem rd6 : rdS 6 b p ends = (cl p ends).2 := rfl
theorem rdS_inv (what : Int) (hi : Inv b.length p ends) (hb : ∀ x ∈ b, 0 ≤ x ∧ x ≤ 255) : Inv b.length (rdS what b p ends).1 (rdS what b p ends).2 := by
  have hv := vD_facts hi hb
  have h4 := fD_facts hi 4 (by omega)
  have h8 := fD_facts hi 8 (by omega)
  unfold rdS
  split; · exact nx_inv hi hv.2.2.1 hv.2.2.2.1
  split; · exact nx_inv hi h4.1 h4.2.1
  split; · exact nx_inv hi h8.1 h8.2.1
  split; · exact txt_inv hi hb
  split; · exact tg_inv hi hb
  split; · exact op_inv hi hb
  split; · exact cl_inv hi
  exact hi
theorem rdS_len (what : Int) : (rdS what b p ends).2.length ≤ ends.length + 1 := by
  unfold rdS
  split; · exact Nat.le_succ_of_le (nx_len _ _ _)
  split; · exact Nat.le_succ_of_le (nx_len _ _ _)
  split; · exact Nat.le_succ_of_le (nx_len _ _ _)
  split; · (unfold txt; split <;> simp)
  split; · (unfold tg; split; · simp
            split <;> simp)
  split; · (unfold op; split <;> simp)
  split; · (unfold cl; split <;> simp; omega)
  simp
end
/-- A result, and the cursors, one of them moved. -/
def CQ (r : Value) (w : World) (B g gm : Nat) (A Am : Option Addr) (c cm : Nat) (b : List Int) (q : Int × List Int) (pm : Int) (vm : Value) (em : List Int) (N : Nat) (e : Ending) (w' : World) : Prop :=
  e = .returned r ∧ ∃ v', Two w' B g gm A Am c cm b q.1 v' q.2 pm vm em (N + 1) ∧ Below B w w'
def MQ (r : Value) (w : World) (B g gm : Nat) (A Am : Option Addr) (c cm : Nat) (b : List Int) (p : Int) (v : Value) (ends : List Int) (q : Int × List Int) (N : Nat) (e : Ending) (w' : World) : Prop :=
  e = .returned r ∧ ∃ v', Two w' B g gm A Am c cm b p v ends q.1 v' q.2 (N + 1) ∧ Below B w w'
section
variable {w : World} {B g gm : Nat} {A Am : Option Addr} {c cm : Nat} {b : List Int} {p : Int} {v : Value} {ends : List Int} {pm : Int} {vm : Value} {em : List Int} {N : Nat} {w' : World}
theorem toC (k : Int) {r : Value} {e : Ending} (T : Two w B g gm A Am c cm b p v ends pm vm em N) (h : e = .returned r ∧ Moved w B g A c b v (rdS k b p ends).1 (rdS k b p ends).2 w') : CQ r w B g gm A Am c cm b (rdS k b p ends) pm vm em N e w' :=
  ⟨h.1, T.movedC h.2 (rdS_inv k T.iC T.hb) (Nat.le_succ _) (Nat.le_trans (rdS_len k) (Nat.succ_le_succ T.eC))⟩
theorem toM (k : Int) {r : Value} {e : Ending} (T : Two w B g gm A Am c cm b p v ends pm vm em N) (h : e = .returned r ∧ MovedM w B gm Am cm b vm (rdS k b pm em).1 (rdS k b pm em).2 w') : MQ r w B g gm A Am c cm b p v ends (rdS k b pm em) N e w' :=
  ⟨h.1, T.movedM h.2 (rdS_inv k T.iM T.hb) (Nat.le_succ _) (Nat.le_trans (rdS_len k) (Nat.succ_le_succ T.eM))⟩
end
theorem cT_0 {w : World} {B g gm : Nat} {A Am : Option Addr} {c cm : Nat} {b : List Int} {p : Int} {v : Value} {ends : List Int} {pm : Int} {vm : Value} {em : List Int} {N : Nat} (T : Two w B g gm A Am c cm b p v ends pm vm em N) : Calls Try.prog 22 #[.pointer (some ⟨g, 0, none⟩)] w (CQ (.int .u64 (vD b p ends).1) w B g gm A Am c cm b (rdS 0 b p ends) pm vm em N) :=
  (Varint_c T.C T.iC T.hB T.hb T.hl).mono fun _ _ h => toC 0 T h
theorem mT_0 {w : World} {B g gm : Nat} {A Am : Option Addr} {c cm : Nat} {b : List Int} {p : Int} {v : Value} {ends : List Int} {pm : Int} {vm : Value} {em : List Int} {N : Nat} (T : Two w B g gm A Am c cm b p v ends pm vm em N) : Calls Try.prog 40 #[.pointer (some ⟨gm, 0, none⟩)] w (MQ (.int .u64 (vD b pm em).1) w B g gm A Am c cm b p v ends (rdS 0 b pm em) N) :=
  (Varint_m T.M T.iM T.hB T.hb T.hl).mono fun _ _ h => toM 0 T h
theorem cT_1 {w : World} {B g gm : Nat} {A Am : Option Addr} {c cm : Nat} {b : List Int} {p : Int} {v : Value} {ends : List Int} {pm : Int} {vm : Value} {em : List Int} {N : Nat} (T : Two w B g gm A Am c cm b p v ends pm vm em N) : Calls Try.prog 41 #[.pointer (some ⟨g, 0, none⟩)] w (CQ (.int .u32 (fD 4 b p ends).1) w B g gm A Am c cm b (rdS 1 b p ends) pm vm em N) :=
  (Fixed4_c T.C T.iC T.hB T.hb T.hl).mono fun _ _ h => toC 1 T h
theorem mT_1 {w : World} {B g gm : Nat} {A Am : Option Addr} {c cm : Nat} {b : List Int} {p : Int} {v : Value} {ends : List Int} {pm : Int} {vm : Value} {em : List Int} {N : Nat} (T : Two w B g gm A Am c cm b p v ends pm vm em N) : Calls Try.prog 42 #[.pointer (some ⟨gm, 0, none⟩), .int .i64 4] w (MQ (.int .u64 (fD 4 b pm em).1) w B g gm A Am c cm b p v ends (rdS 1 b pm em) N) :=
  (Fixed_m T.M T.iM T.hB T.hb T.hl 4 (.inl rfl)).mono fun _ _ h => toM 1 T h
theorem cT_2 {w : World} {B g gm : Nat} {A Am : Option Addr} {c cm : Nat} {b : List Int} {p : Int} {v : Value} {ends : List Int} {pm : Int} {vm : Value} {em : List Int} {N : Nat} (T : Two w B g gm A Am c cm b p v ends pm vm em N) : Calls Try.prog 43 #[.pointer (some ⟨g, 0, none⟩)] w (CQ (.int .u64 (fD 8 b p ends).1) w B g gm A Am c cm b (rdS 2 b p ends) pm vm em N) :=
  (Fixed8_c T.C T.iC T.hB T.hb T.hl).mono fun _ _ h => toC 2 T h
theorem mT_2 {w : World} {B g gm : Nat} {A Am : Option Addr} {c cm : Nat} {b : List Int} {p : Int} {v : Value} {ends : List Int} {pm : Int} {vm : Value} {em : List Int} {N : Nat} (T : Two w B g gm A Am c cm b p v ends pm vm em N) : Calls Try.prog 42 #[.pointer (some ⟨gm, 0, none⟩), .int .i64 8] w (MQ (.int .u64 (fD 8 b pm em).1) w B g gm A Am c cm b p v ends (rdS 2 b pm em) N) :=
  (Fixed_m T.M T.iM T.hB T.hb T.hl 8 (.inr rfl)).mono fun _ _ h => toM 2 T h
theorem cT_3 {w : World} {B g gm : Nat} {A Am : Option Addr} {c cm : Nat} {b : List Int} {p : Int} {v : Value} {ends : List Int} {pm : Int} {vm : Value} {em : List Int} {N : Nat} (T : Two w B g gm A Am c cm b p v ends pm vm em N) : Calls Try.prog 15 #[.pointer (some ⟨g, 0, none⟩)] w (CQ (.string (strOfNums (txt b p ends).1)) w B g gm A Am c cm b (rdS 3 b p ends) pm vm em N) :=
  (Text_c T.C T.iC T.hB T.hb T.hl).mono fun _ _ h => toC 3 T h
theorem mT_3 {w : World} {B g gm : Nat} {A Am : Option Addr} {c cm : Nat} {b : List Int} {p : Int} {v : Value} {ends : List Int} {pm : Int} {vm : Value} {em : List Int} {N : Nat} (T : Two w B g gm A Am c cm b p v ends pm vm em N) : Calls Try.prog 44 #[.pointer (some ⟨gm, 0, none⟩)] w (MQ (.string (strOfNums (txt b pm em).1)) w B g gm A Am c cm b p v ends (rdS 3 b pm em) N) :=
  (Text_m T.M T.iM T.hB T.hb T.hl).mono fun _ _ h => toM 3 T h
theorem cT_4 {w : World} {B g gm : Nat} {A Am : Option Addr} {c cm : Nat} {b : List Int} {p : Int} {v : Value} {ends : List Int} {pm : Int} {vm : Value} {em : List Int} {N : Nat} (T : Two w B g gm A Am c cm b p v ends pm vm em N) : Calls Try.prog 45 #[.pointer (some ⟨g, 0, none⟩)] w (CQ (.tuple #[.int .i64 (tg b p ends).1.1, .int .i64 (tg b p ends).1.2]) w B g gm A Am c cm b (rdS 4 b p ends) pm vm em N) :=
  (Tag_c T.C T.iC T.hB T.hb T.hl).mono fun _ _ h => toC 4 T h
theorem mT_4 {w : World} {B g gm : Nat} {A Am : Option Addr} {c cm : Nat} {b : List Int} {p : Int} {v : Value} {ends : List Int} {pm : Int} {vm : Value} {em : List Int} {N : Nat} (T : Two w B g gm A Am c cm b p v ends pm vm em N) : Calls Try.prog 46 #[.pointer (some ⟨gm, 0, none⟩)] w (MQ (.tuple #[.int .i64 (tg b pm em).1.1, .int .i64 (tg b pm em).1.2]) w B g gm A Am c cm b p v ends (rdS 4 b pm em) N) :=
  (Tag_m T.M T.iM T.hB T.hb T.hl).mono fun _ _ h => toM 4 T h
theorem cT_5 {w : World} {B g gm : Nat} {A Am : Option Addr} {c cm : Nat} {b : List Int} {p : Int} {v : Value} {ends : List Int} {pm : Int} {vm : Value} {em : List Int} {N : Nat} (T : Two w B g gm A Am c cm b p v ends pm vm em N) (hN : N + 1 ≤ 1000000000000) : Calls Try.prog 12 #[.pointer (some ⟨g, 0, none⟩)] w (CQ (.bool (op b p ends).1) w B g gm A Am c cm b (rdS 5 b p ends) pm vm em N) :=
  (Open_c T.C T.iC T.hB T.hb T.hl (by have := T.eC; omega)).mono fun _ _ h => toC 5 T h
theorem mT_5 {w : World} {B g gm : Nat} {A Am : Option Addr} {c cm : Nat} {b : List Int} {p : Int} {v : Value} {ends : List Int} {pm : Int} {vm : Value} {em : List Int} {N : Nat} (T : Two w B g gm A Am c cm b p v ends pm vm em N) (hN : N + 1 ≤ 1000000000000) : Calls Try.prog 47 #[.pointer (some ⟨gm, 0, none⟩)] w (MQ (.bool (op b pm em).1) w B g gm A Am c cm b p v ends (rdS 5 b pm em) N) :=
  (Open_m T.M T.iM T.hB T.hb T.hl (by have := T.eM; omega)).mono fun _ _ h => toM 5 T h
theorem cT_6 {w : World} {B g gm : Nat} {A Am : Option Addr} {c cm : Nat} {b : List Int} {p : Int} {v : Value} {ends : List Int} {pm : Int} {vm : Value} {em : List Int} {N : Nat} (T : Two w B g gm A Am c cm b p v ends pm vm em N) : Calls Try.prog 16 #[.pointer (some ⟨g, 0, none⟩)] w (CQ (.bool (cl p ends).1) w B g gm A Am c cm b (rdS 6 b p ends) pm vm em N) :=
  (Close_c T.C).mono fun _ _ h => toC 6 T h
theorem mT_6 {w : World} {B g gm : Nat} {A Am : Option Addr} {c cm : Nat} {b : List Int} {p : Int} {v : Value} {ends : List Int} {pm : Int} {vm : Value} {em : List Int} {N : Nat} (T : Two w B g gm A Am c cm b p v ends pm vm em N) : Calls Try.prog 48 #[.pointer (some ⟨gm, 0, none⟩)] w (MQ (.bool (cl pm em).1) w B g gm A Am c cm b p v ends (rdS 6 b pm em) N) :=
  (Close_m T.M).mono fun _ _ h => toM 6 T h
/-- What read leaves. -/
def ReadP (w : World) (B g gm : Nat) (A Am : Option Addr) (c cm : Nat) (b : List Int) (p : Int) (ends : List Int) (pm : Int) (em : List Int) (N : Nat) (k : Int) (e : Ending) (w' : World) : Prop :=
  ∃ r v' vm', e = .returned (.bool r) ∧ (p = pm → ends = em → r = true) ∧ Two w' B g gm A Am c cm b (rdS k b p ends).1 v' (rdS k b p ends).2 (rdS k b pm em).1 vm' (rdS k b pm em).2 (N + 2) ∧ Below B w w'
theorem fD4_small {b : List Int} (hb : ∀ x ∈ b, 0 ≤ x ∧ x ≤ 255) (p : Int) (ends : List Int) : IntKind.u64.wrap (fD 4 b p ends).1 = (fD 4 b p ends).1 := by
  have h : ∀ i, 0 ≤ (seg b p ends).getD i 0 ∧ (seg b p ends).getD i 0 ≤ 255 := fun i => by
    rw [List.getD_eq_getElem?_getD]
    rcases hh : (seg b p ends)[i]? with _ | x
    · simp
    · exact seg_bytes hb x (List.mem_of_getElem? hh)
  unfold fD fixD
  split
  · decide
  · rw [if_pos rfl, IntKind.wrap_u64]
    unfold M.val4
    have h0 := h 0
    have h1 := h 1
    have h2 := h 2
    have h3 := h 3
    simp only
    omega
theorem read_0 {w : World} {B g gm : Nat} {A Am : Option Addr} {c cm : Nat} {b : List Int} {p : Int} {v : Value} {ends : List Int} {pm : Int} {vm : Value} {em : List Int} {N : Nat} (T : Two w B g gm A Am c cm b p v ends pm vm em N) (hN : N + 2 ≤ 1000000000000) :
    Calls Try.prog 18 #[.pointer (some ⟨g, 0, none⟩), .pointer (some ⟨gm, 0, none⟩), .int .u8 0] w (ReadP w B g gm A Am c cm b p ends pm em N 0) := by
  have hT := Aside0.mk T
  have HN := Aside0.mk hN
  have H4 := Aside0.mk (fD4_small T.hb)
  clear T hN
  go_enter Try.func18, Try.ntmps18
  go_wp2_with (first
    | (go_at_call 22; refine (cT_0 hT.out).mono ?_; rintro e w1 ⟨rfl, v1, t1, b1⟩; have T1 := Aside0.mk t1; have B1 := Aside0.mk b1; clear t1 b1)
    | (go_at_call 40; refine (mT_0 T1.out).mono ?_; rintro e w2 ⟨rfl, v2, t2, b2⟩; have T2 := Aside0.mk t2; have B2 := Aside0.mk b2; clear t2 b2))
  all_goals
    go_ret
    refine ⟨_, v1, v2, rfl, fun hp he => ?_, T2.out, B1.out.trans (B2.out)⟩
    subst hp he
    first | (exact absurd rfl (by assumption)) | simp [H4.out]
theorem read_1 {w : World} {B g gm : Nat} {A Am : Option Addr} {c cm : Nat} {b : List Int} {p : Int} {v : Value} {ends : List Int} {pm : Int} {vm : Value} {em : List Int} {N : Nat} (T : Two w B g gm A Am c cm b p v ends pm vm em N) (hN : N + 2 ≤ 1000000000000) :
    Calls Try.prog 18 #[.pointer (some ⟨g, 0, none⟩), .pointer (some ⟨gm, 0, none⟩), .int .u8 1] w (ReadP w B g gm A Am c cm b p ends pm em N 1) := by
  have hT := Aside0.mk T
  have HN := Aside0.mk hN
  have H4 := Aside0.mk (fD4_small T.hb)
  clear T hN
  go_enter Try.func18, Try.ntmps18
  go_wp2_with (first
    | (go_at_call 41; refine (cT_1 hT.out).mono ?_; rintro e w1 ⟨rfl, v1, t1, b1⟩; have T1 := Aside0.mk t1; have B1 := Aside0.mk b1; clear t1 b1)
    | (go_at_call 42; refine (mT_1 T1.out).mono ?_; rintro e w2 ⟨rfl, v2, t2, b2⟩; have T2 := Aside0.mk t2; have B2 := Aside0.mk b2; clear t2 b2))
  all_goals
    go_ret
    refine ⟨_, v1, v2, rfl, fun hp he => ?_, T2.out, B1.out.trans (B2.out)⟩
    subst hp he
    first | (exact absurd rfl (by assumption)) | simp [H4.out]
theorem read_2 {w : World} {B g gm : Nat} {A Am : Option Addr} {c cm : Nat} {b : List Int} {p : Int} {v : Value} {ends : List Int} {pm : Int} {vm : Value} {em : List Int} {N : Nat} (T : Two w B g gm A Am c cm b p v ends pm vm em N) (hN : N + 2 ≤ 1000000000000) :
    Calls Try.prog 18 #[.pointer (some ⟨g, 0, none⟩), .pointer (some ⟨gm, 0, none⟩), .int .u8 2] w (ReadP w B g gm A Am c cm b p ends pm em N 2) := by
  have hT := Aside0.mk T
  have HN := Aside0.mk hN
  have H4 := Aside0.mk (fD4_small T.hb)
  clear T hN
  go_enter Try.func18, Try.ntmps18
  go_wp2_with (first
    | (go_at_call 43; refine (cT_2 hT.out).mono ?_; rintro e w1 ⟨rfl, v1, t1, b1⟩; have T1 := Aside0.mk t1; have B1 := Aside0.mk b1; clear t1 b1)
    | (go_at_call 42; refine (mT_2 T1.out).mono ?_; rintro e w2 ⟨rfl, v2, t2, b2⟩; have T2 := Aside0.mk t2; have B2 := Aside0.mk b2; clear t2 b2))
  all_goals
    go_ret
    refine ⟨_, v1, v2, rfl, fun hp he => ?_, T2.out, B1.out.trans (B2.out)⟩
    subst hp he
    first | (exact absurd rfl (by assumption)) | simp [H4.out]
theorem read_3 {w : World} {B g gm : Nat} {A Am : Option Addr} {c cm : Nat} {b : List Int} {p : Int} {v : Value} {ends : List Int} {pm : Int} {vm : Value} {em : List Int} {N : Nat} (T : Two w B g gm A Am c cm b p v ends pm vm em N) (hN : N + 2 ≤ 1000000000000) :
    Calls Try.prog 18 #[.pointer (some ⟨g, 0, none⟩), .pointer (some ⟨gm, 0, none⟩), .int .u8 3] w (ReadP w B g gm A Am c cm b p ends pm em N 3) := by
  have hT := Aside0.mk T
  have HN := Aside0.mk hN
  have H4 := Aside0.mk (fD4_small T.hb)
  clear T hN
  go_enter Try.func18, Try.ntmps18
  go_wp2_with (first
    | (go_at_call 15; refine (cT_3 hT.out).mono ?_; rintro e w1 ⟨rfl, v1, t1, b1⟩; have T1 := Aside0.mk t1; have B1 := Aside0.mk b1; clear t1 b1)
    | (go_at_call 44; refine (mT_3 T1.out).mono ?_; rintro e w2 ⟨rfl, v2, t2, b2⟩; have T2 := Aside0.mk t2; have B2 := Aside0.mk b2; clear t2 b2))
  all_goals
    go_ret
    refine ⟨_, v1, v2, rfl, fun hp he => ?_, T2.out, B1.out.trans (B2.out)⟩
    subst hp he
    first | (exact absurd rfl (by assumption)) | simp [H4.out]
theorem read_4 {w : World} {B g gm : Nat} {A Am : Option Addr} {c cm : Nat} {b : List Int} {p : Int} {v : Value} {ends : List Int} {pm : Int} {vm : Value} {em : List Int} {N : Nat} (T : Two w B g gm A Am c cm b p v ends pm vm em N) (hN : N + 2 ≤ 1000000000000) :
    Calls Try.prog 18 #[.pointer (some ⟨g, 0, none⟩), .pointer (some ⟨gm, 0, none⟩), .int .u8 4] w (ReadP w B g gm A Am c cm b p ends pm em N 4) := by
  have hT := Aside0.mk T
  have HN := Aside0.mk hN
  have H4 := Aside0.mk (fD4_small T.hb)
  clear T hN
  go_enter Try.func18, Try.ntmps18
  go_wp2_with (first
    | (go_at_call 45; refine (cT_4 hT.out).mono ?_; rintro e w1 ⟨rfl, v1, t1, b1⟩; have T1 := Aside0.mk t1; have B1 := Aside0.mk b1; clear t1 b1)
    | (go_at_call 46; refine (mT_4 T1.out).mono ?_; rintro e w2 ⟨rfl, v2, t2, b2⟩; have T2 := Aside0.mk t2; have B2 := Aside0.mk b2; clear t2 b2))
  all_goals
    go_ret
    refine ⟨_, v1, v2, rfl, fun hp he => ?_, T2.out, B1.out.trans (B2.out)⟩
    subst hp he
    first | (exact absurd rfl (by assumption)) | simp [H4.out]
theorem read_5 {w : World} {B g gm : Nat} {A Am : Option Addr} {c cm : Nat} {b : List Int} {p : Int} {v : Value} {ends : List Int} {pm : Int} {vm : Value} {em : List Int} {N : Nat} (T : Two w B g gm A Am c cm b p v ends pm vm em N) (hN : N + 2 ≤ 1000000000000) :
    Calls Try.prog 18 #[.pointer (some ⟨g, 0, none⟩), .pointer (some ⟨gm, 0, none⟩), .int .u8 5] w (ReadP w B g gm A Am c cm b p ends pm em N 5) := by
  have hT := Aside0.mk T
  have HN := Aside0.mk hN
  have H4 := Aside0.mk (fD4_small T.hb)
  clear T hN
  go_enter Try.func18, Try.ntmps18
  go_wp2_with (first
    | (go_at_call 12; refine (cT_5 hT.out (by have := HN.out; omega)).mono ?_; rintro e w1 ⟨rfl, v1, t1, b1⟩; have T1 := Aside0.mk t1; have B1 := Aside0.mk b1; clear t1 b1)
    | (go_at_call 47; refine (mT_5 T1.out (by have := HN.out; omega)).mono ?_; rintro e w2 ⟨rfl, v2, t2, b2⟩; have T2 := Aside0.mk t2; have B2 := Aside0.mk b2; clear t2 b2))
  all_goals
    go_ret
    refine ⟨_, v1, v2, rfl, fun hp he => ?_, T2.out, B1.out.trans (B2.out)⟩
    subst hp he
    first | (exact absurd rfl (by assumption)) | simp [H4.out]
theorem read_6 {w : World} {B g gm : Nat} {A Am : Option Addr} {c cm : Nat} {b : List Int} {p : Int} {v : Value} {ends : List Int} {pm : Int} {vm : Value} {em : List Int} {N : Nat} (T : Two w B g gm A Am c cm b p v ends pm vm em N) (hN : N + 2 ≤ 1000000000000) :
    Calls Try.prog 18 #[.pointer (some ⟨g, 0, none⟩), .pointer (some ⟨gm, 0, none⟩), .int .u8 6] w (ReadP w B g gm A Am c cm b p ends pm em N 6) := by
  have hT := Aside0.mk T
  have HN := Aside0.mk hN
  have H4 := Aside0.mk (fD4_small T.hb)
  clear T hN
  go_enter Try.func18, Try.ntmps18
  go_wp2_with (first
    | (go_at_call 16; refine (cT_6 hT.out).mono ?_; rintro e w1 ⟨rfl, v1, t1, b1⟩; have T1 := Aside0.mk t1; have B1 := Aside0.mk b1; clear t1 b1)
    | (go_at_call 48; refine (mT_6 T1.out).mono ?_; rintro e w2 ⟨rfl, v2, t2, b2⟩; have T2 := Aside0.mk t2; have B2 := Aside0.mk b2; clear t2 b2))
  all_goals
    go_ret
    refine ⟨_, v1, v2, rfl, fun hp he => ?_, T2.out, B1.out.trans (B2.out)⟩
    subst hp he
    first | (exact absurd rfl (by assumption)) | simp [H4.out]
theorem Two.more {w : World} {B g gm : Nat} {A Am : Option Addr} {c cm : Nat} {b : List Int} {p : Int} {v : Value} {ends : List Int} {pm : Int} {vm : Value} {em : List Int} {N : Nat} {N' : Nat} (T : Two w B g gm A Am c cm b p v ends pm vm em N) (hN : N ≤ N') : Two w B g gm A Am c cm b p v ends pm vm em N' :=
  ⟨T.C, T.M, T.ap, T.hB, T.iC, T.iM, T.hb, T.hl, Nat.le_trans T.eC hN, Nat.le_trans T.eM hN⟩
theorem rd7 {k : Int} (hk : 7 ≤ k) {b : List Int} {p : Int} {ends : List Int} : rdS k b p ends = (p, ends) := by
  unfold rdS
  rw [if_neg (by omega), if_neg (by omega), if_neg (by omega), if_neg (by omega), if_neg (by omega), if_neg (by omega), if_neg (by omega)]
theorem read_7 {w : World} {B g gm : Nat} {A Am : Option Addr} {c cm : Nat} {b : List Int} {p : Int} {v : Value} {ends : List Int} {pm : Int} {vm : Value} {em : List Int} {N : Nat} (T : Two w B g gm A Am c cm b p v ends pm vm em N) (k : Int) (hk : 7 ≤ k) :
    Calls Try.prog 18 #[.pointer (some ⟨g, 0, none⟩), .pointer (some ⟨gm, 0, none⟩), .int .u8 k] w (ReadP w B g gm A Am c cm b p ends pm em N k) := by
  have hT := Aside0.mk T
  have HK := Aside0.mk hk
  have hk0 : (k == 0) = false := by rw [beq_eq_false_iff_ne]; omega
  have hk1 : (k == 1) = false := by rw [beq_eq_false_iff_ne]; omega
  have hk2 : (k == 2) = false := by rw [beq_eq_false_iff_ne]; omega
  have hk3 : (k == 3) = false := by rw [beq_eq_false_iff_ne]; omega
  have hk4 : (k == 4) = false := by rw [beq_eq_false_iff_ne]; omega
  have hk5 : (k == 5) = false := by rw [beq_eq_false_iff_ne]; omega
  have hk6 : (k == 6) = false := by rw [beq_eq_false_iff_ne]; omega
  clear T hk
  go_enter Try.func18, Try.ntmps18
  go_wp2_with (first
    | (go_at_call 14; refine (more_c hT.out.C).mono ?_; rintro e w1 ⟨rfl, hd1⟩; have T1 := Aside0.mk (hT.out.drawn hd1); have B1 := Aside0.mk (Drawn0.bel (B := B) hd1); clear hd1)
    | (go_at_call 49; refine (More_m T1.out.M).mono ?_; rintro e w2 ⟨rfl, hd2⟩; have T2 := Aside0.mk (T1.out.drawn hd2); have B2 := Aside0.mk (Drawn0.bel (B := B) hd2); clear hd2))
  all_goals
    go_ret
    refine ⟨_, v, vm, rfl, fun hp he => ?_, ?_, B1.out.trans (B2.out)⟩
    rotate_left
    · rw [rd7 HK.out, rd7 HK.out]
      exact T2.out.more (by omega)
    subst hp he
    first | (exact absurd rfl (by assumption)) | simp
/-- read, whatever is read. -/
theorem read_c {w : World} {B g gm : Nat} {A Am : Option Addr} {c cm : Nat} {b : List Int} {p : Int} {v : Value} {ends : List Int} {pm : Int} {vm : Value} {em : List Int} {N : Nat} (T : Two w B g gm A Am c cm b p v ends pm vm em N) (hN : N + 2 ≤ 1000000000000) (k : Int) (h0 : 0 ≤ k) :
    Calls Try.prog 18 #[.pointer (some ⟨g, 0, none⟩), .pointer (some ⟨gm, 0, none⟩), .int .u8 k] w (ReadP w B g gm A Am c cm b p ends pm em N k) := by
  by_cases h7 : 7 ≤ k
  · exact read_7 T k h7
  · have : k = 0 ∨ k = 1 ∨ k = 2 ∨ k = 3 ∨ k = 4 ∨ k = 5 ∨ k = 6 := by omega
    rcases this with rfl | rfl | rfl | rfl | rfl | rfl | rfl
    · exact read_0 T hN
    · exact read_1 T hN
    · exact read_2 T hN
    · exact read_3 T hN
    · exact read_4 T hN
    · exact read_5 T hN
    · exact read_6 T hN
/-- like, of a cursor and the reference's at the same place. -/
theorem like_c {w : World} {B g gm : Nat} {A Am : Option Addr} {c cm : Nat} {b : List Int} {p : Int} {v : Value} {ends : List Int} {vm : Value} {N : Nat} (T : Two w B g gm A Am c cm b p v ends p vm ends N) :
    Calls Try.prog 19 #[.pointer (some ⟨g, 0, none⟩), .pointer (some ⟨gm, 0, none⟩)] w fun e w' => e = .returned (.bool true) ∧ Drawn0 w w' := by
  have hm1 : w.cell? ⟨gm, 1, none⟩ = some (.int .i64 p) := (blk_cell T.M.blk 1).trans rfl
  obtain ⟨Am2, cm2, rfl⟩ := Kd.R_slice T.M.row
  have hm2 : w.cell? ⟨gm, 2, none⟩ = some (.slice Am2 ends.length cm2) := (blk_cell T.M.blk 2).trans rfl
  have HA := Aside0.mk (fun n => at_c (T.C.drewN n))
  have HD := Aside0.mk (fun n => deep_c (T.C.drewN n))
  have HM := Aside0.mk (fun n => more_c (T.C.drewN n))
  have HN := Aside0.mk (fun n => More_m (T.M.drewN n))
  have hpp : (p == p) = true := beq_self_eq_true p
  have hll : ((ends.length : Int) == (ends.length : Int)) = true := beq_self_eq_true _
  obtain ⟨x, hx⟩ : ∃ x, x = moreB p ends := ⟨_, rfl⟩
  rw [← hx] at HM HN
  have hxx : (x == x) = true := beq_self_eq_true x
  by_cases hn : 0 < ends.length
  · have HO := Aside0.mk (fun n => ok_yes (T.C.drewN n) hn)
    have hm3 := T.M.good hn
    clear T hn hx
    go_enter Try.func19, Try.ntmps19
    go_wp2_with fail
    go_quiet ((first
      | (go_at_call 20; exact quiet (HO.out _))
      | (go_at_call 21; exact quiet (HA.out _))
      | (go_at_call 13; exact quiet (HD.out _))
      | (go_at_call 14; exact quiet (HM.out _))
      | (go_at_call 49; exact quiet (HN.out _))))
    go_wp2_with fail
    go_ret
    exact ⟨rfl, Drawn0.step (Drawn0.refl _) _⟩
  · have HO := Aside0.mk (fun n => ok_no (T.C.drewN n) (by omega))
    have hm3 := T.M.bad (by omega)
    clear T hn hx
    go_enter Try.func19, Try.ntmps19
    go_wp2_with fail
    go_quiet ((first
      | (go_at_call 20; exact quiet (HO.out _))
      | (go_at_call 21; exact quiet (HA.out _))
      | (go_at_call 13; exact quiet (HD.out _))
      | (go_at_call 14; exact quiet (HM.out _))
      | (go_at_call 49; exact quiet (HN.out _))))
    go_wp2_with fail
    go_ret
    exact ⟨rfl, Drawn0.step (Drawn0.refl _) _⟩
end Go.Proofs.Ytfbmabhdjliohaa.Cur
