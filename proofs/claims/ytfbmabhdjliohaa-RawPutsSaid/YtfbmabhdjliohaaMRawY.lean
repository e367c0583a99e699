/- RawPuts; conditions stand at each. -/
import Derived.Test.YtfbmabhdjliohaaMRawX
import Derived.Test.YtfbmabhdjliohaaOpen
namespace Go.Proofs.Ytfbmabhdjliohaa.Cur
open Go.RowKit Go.Proofs.Ytfbmabhdjliohaa.Rng Go.Proofs.YtfbmabhdjliohaaW.PrintWords Go.Proofs.YtfbmabhdjliohaaW.PrintLast Go.Proofs.YtfbmabhdjliohaaW.PrintMore Go.Proofs.Ytfbmabhdjliohaa.Var
set_option maxHeartbeats 1000000
set_option maxRecDepth 100000
set_option linter.unusedSimpArgs false
set_option linter.unusedVariables false
attribute [local go_sem high] PRaw.eqA46
theorem same_l (l m : List SR) (hl : l.length = m.length) (hb : l.length ≤ 4000000000000) : ∀ (d k i : Nat), i + d = l.length → d < k → PRaw.api_Raw.l0 k l m (l.length : Int) (i : Int) = some (sameFrom l m d i)
  | 0, k, i, h, hk => by
    obtain ⟨k, rfl⟩ : ∃ j, k = j + 1 := ⟨k - 1, by omega⟩
    simp only [PRaw.api_Raw.l0, sameFrom]
    rw [if_neg (by omega)]
  | d + 1, k, i, h, hk => by
    obtain ⟨k, rfl⟩ : ∃ j, k = j + 1 := ⟨k - 1, by omega⟩
    have hw : wrap64 ((i : Int) + 1) = ((i + 1 : Nat) : Int) := by unfold wrap64; omega
    have ih := same_l l m hl hb d k (i + 1) (by omega) (by omega)
    simp only [PRaw.api_Raw.l0, sameFrom]
    rw [if_pos (by omega), if_pos (by omega), if_pos (by omega), if_pos (by omega), hw, ih]
    show (if neB (rdR l (i : Int)) (rdR m (i : Int)) = true then some false else some (sameFrom l m d (i + 1))) = _
    split <;> rfl
theorem same_f (l m : List SR) (hb : l.length ≤ 4000000000000) (k : Nat) (hk : l.length < k) : PRaw.raw_Same.f k l m = some (sameB l m) := by
  unfold PRaw.raw_Same.f PRaw.api_Raw.f sameB
  by_cases h : (l.length : Int) = (m.length : Int)
  · rw [if_pos h, if_pos h]
    have := same_l l m (by omega) hb l.length k 0 (by omega) hk
    rw [show ((0 : Nat) : Int) = 0 from rfl] at this
    rw [this]
    rfl
  · rw [if_neg h, if_neg h]
    rfl
/-- All are right. -/
def allB (l : List SR) : Bool := l.all (fun x => decide (RS x))
theorem rdR_get {l : List SR} {i : Nat} (h : i < l.length) : l[i]? = some (rdR l (i : Int)) := by
  unfold rdR PRaw.rd_T46
  rw [Int.toNat_natCast, List.getD_eq_getElem?_getD, List.getElem?_eq_getElem h]
  rfl
theorem all_l (l : List SR) (hb : l.length ≤ 4000000000000) : ∀ (d k i : Nat), i + d = l.length → d < k → PRaw.ecdysisref07_All.l0 k l (i : Int) = some (allB (l.drop i))
  | 0, k, i, h, hk => by
    obtain ⟨k, rfl⟩ : ∃ j, k = j + 1 := ⟨k - 1, by omega⟩
    simp only [PRaw.ecdysisref07_All.l0]
    rw [if_neg (by omega), List.drop_eq_nil_of_le (by omega)]
    rfl
  | d + 1, k, i, h, hk => by
    obtain ⟨k, rfl⟩ : ∃ j, k = j + 1 := ⟨k - 1, by omega⟩
    have hw : wrap64 ((i : Int) + 1) = ((i + 1 : Nat) : Int) := by unfold wrap64; omega
    have ih := all_l l hb d k (i + 1) (by omega) (by omega)
    have hd : l.drop i = rdR l (i : Int) :: l.drop (i + 1) := by
      have h1 := rdR_get (l := l) (i := i) (by omega)
      rw [List.drop_eq_getElem_cons (by omega : i < l.length)]
      congr 1
      rw [List.getElem?_eq_getElem (by omega)] at h1
      injection h1
    simp only [PRaw.ecdysisref07_All.l0]
    rw [if_pos (by omega), if_pos (by omega), hw, ih]
    show (PRaw.ecdysisref07_Right.f (rdR l (i : Int)).f0 (rdR l (i : Int)).f1 (rdR l (i : Int)).f2 (rdR l (i : Int)).f3).bind _ = _
    rw [right_ref, hd]
    simp only [Option.bind_some, allB, List.all_cons]
    by_cases hr : RS (rdR l (i : Int)) <;> simp [hr]
theorem all_f (l : List SR) (hb : l.length ≤ 4000000000000) (k : Nat) (hk : l.length < k) : PRaw.ecdysisref07_All.f k l = some (allB l) := by
  have := all_l l hb l.length k 0 (by omega) hk
  unfold PRaw.ecdysisref07_All.f
  exact this
theorem small_l (l : List SR) (hb : l.length ≤ 4000000000000) : ∀ (d k i : Nat), i + d = l.length → 2 * d + 2 ≤ k → (∀ j, j < i → (rdR l (j : Int)).f3.size ≤ 300) → ∃ r, PRaw.ecdysislaw07_Small.l0 k l (i : Int) = some r ∧ (r = true → l.length ≤ 50 ∧ ∀ j, j < l.length → (rdR l (j : Int)).f3.size ≤ 300)
  | 0, k, i, h, hk, hs => by
    obtain ⟨k, rfl⟩ : ∃ j, k = j + 2 := ⟨k - 2, by omega⟩
    refine ⟨decide ((l.length : Int) ≤ 50), ?_, fun hr => ⟨by have := of_decide_eq_true hr; omega, fun j hj => hs j (by omega)⟩⟩
    simp only [PRaw.ecdysislaw07_Small.l0, PRaw.ecdysislaw07_Small.j1]
    rw [if_neg (by omega)]
    rfl
  | d + 1, k, i, h, hk, hs => by
    obtain ⟨k, rfl⟩ : ∃ j, k = j + 2 := ⟨k - 2, by omega⟩
    have hw : wrap64 ((i : Int) + 1) = ((i + 1 : Nat) : Int) := by unfold wrap64; omega
    by_cases h6 : (i : Int) < 60
    · by_cases hz : ((rdR l (i : Int)).f3.size : Int) > 300
      · refine ⟨false, ?_, fun hr => by cases hr⟩
        simp only [PRaw.ecdysislaw07_Small.l0, PRaw.ecdysislaw07_Small.j1]
        rw [if_pos (by omega), decide_eq_true h6, if_pos rfl, if_pos (by omega), if_pos (by omega)]
        exact if_pos hz
      · obtain ⟨r, hr, hp⟩ := small_l l hb d k (i + 1) (by omega) (by omega) (fun j hj => by
          rcases Nat.lt_or_ge j i with h7 | h7
          · exact hs j h7
          · obtain rfl : j = i := by omega
            omega)
        refine ⟨r, ?_, hp⟩
        simp only [PRaw.ecdysislaw07_Small.l0, PRaw.ecdysislaw07_Small.j1]
        rw [if_pos (by omega), decide_eq_true h6, if_pos rfl, if_pos (by omega), if_pos (by omega), hw, hr]
        exact if_neg hz
    · refine ⟨decide ((l.length : Int) ≤ 50), ?_, fun hr => by have := of_decide_eq_true hr; omega⟩
      simp only [PRaw.ecdysislaw07_Small.l0, PRaw.ecdysislaw07_Small.j1]
      rw [if_pos (by omega), decide_eq_false h6, if_neg (by decide)]
theorem small_f (l : List SR) (hb : l.length ≤ 4000000000000) : ∃ r, PRaw.ecdysislaw07_Small.f (2 * l.length + 2) l = some r ∧ (r = true → l.length ≤ 50 ∧ ∀ x ∈ l, x.f3.size ≤ 300) := by
  obtain ⟨r, hr, hp⟩ := small_l l hb l.length (2 * l.length + 2) 0 (by omega) (by omega) (fun j hj => by omega)
  refine ⟨r, hr, fun h => ⟨(hp h).1, fun x hx => ?_⟩⟩
  obtain ⟨i, hi, rfl⟩ := List.getElem_of_mem hx
  have h1 := rdR_get hi
  rw [List.getElem?_eq_getElem hi] at h1
  injection h1 with h1
  rw [h1]
  exact (hp h).2 i hi
/-- The field of the model. -/
def toFd (x : SR) : Fd := (x.f0, x.f1, x.f2, bytesOf x.f3)
theorem nums_str' (s : ByteArray) : strOfNums (bytesOf s) = s := by
  cases s with
  | mk data =>
    unfold strOfNums bytesOf
    congr 1
    apply Array.ext'
    simp only [List.map_map]
    exact (List.map_congr_left (fun y _ => show UInt8.ofNat ((y.toNat : Int)).toNat = y by rw [Int.toNat_natCast]; simp)).trans (List.map_id _)
theorem bytesOf_byte' (s : ByteArray) : ∀ x ∈ bytesOf s, 0 ≤ x ∧ x ≤ 255 := by
  intro x hx
  obtain ⟨y, _, rfl⟩ := List.mem_map.1 hx
  have := y.toNat_lt
  omega
theorem s46_toFd (x : SR) : s46 (toFd x) = x := by
  unfold s46 toFd
  simp only [nums_str']
theorem wbs_toFd (l : List SR) : wbsS l = wbs (l.map toFd) := by
  unfold wbsS wbs
  rw [List.map_map]
  rfl
theorem toFd_ok {x : SR} (h : VS x) : FdOk (toFd x) := ⟨h.1.1, h.1.2, bytesOf_byte' x.f3, by have := h.2; simp only [toFd]; rw [bytesOf_length]; omega⟩
theorem toFd_right {x : SR} (h : RS x) : RightD (toFd x) := by rw [← RS_s46, s46_toFd]; exact h
theorem par_put (l : List SR) (h : ∀ x ∈ l, RS x ∧ VS x) : (par (wbsS l)).2 = true ∧ ((par (wbsS l)).1.map fun x => s46 x.1) = l := by
  have h1 := pg_put (l.map toFd) ((wbsS l).length + 1) (fun x hx => by
    obtain ⟨y, hy, rfl⟩ := List.mem_map.1 hx
    exact ⟨toFd_right (h y hy).1, toFd_ok (h y hy).2⟩) (by rw [wbs_toFd]; omega)
  unfold par
  rw [wbs_toFd] at h1 ⊢
  rw [h1]
  refine ⟨rfl, ?_⟩
  simp only [List.map_map]
  refine (List.map_congr_left (fun y hy => ?_)).trans (List.map_id _)
  exact s46_toFd y
theorem b8_byte (n : Int) (h0 : 0 ≤ n) (h1 : n ≤ 18446744073709551615) : ∀ x ∈ M.b8 n, 0 ≤ x ∧ x ≤ 255 := by
  intro x hx
  simp only [M.b8, List.mem_cons, List.not_mem_nil, or_false] at hx
  rcases hx with h | h | h | h | h | h | h | h <;> omega
theorem b4_byte (n : Int) (h0 : 0 ≤ n) (h1 : n < 4294967296) : ∀ x ∈ M.b4 n, 0 ≤ x ∧ x ≤ 255 := by
  intro x hx
  simp only [M.b4, List.mem_cons, List.not_mem_nil, or_false] at hx
  rcases hx with h | h | h | h <;> omega
theorem wbS_byte {x : SR} (hr : RS x) (hv : VS x) : ∀ y ∈ wbS x, 0 ≤ y ∧ y ≤ 255 := by
  intro y hy
  unfold wbS payB at hy
  rcases List.mem_append.1 hy with h | h
  · exact VLib.enc_byte _ _ y h
  · split at h
    · exact VLib.enc_byte _ _ y h
    · split at h
      · exact b8_byte _ hv.1.1 hv.1.2 y h
      · split at h
        · rename_i h5
          refine b4_byte _ hv.1.1 ?_ y h
          have h2 := hr.2
          rw [if_neg (by omega)] at h2
          exact h2.2 h5
        · rcases List.mem_append.1 h with h | h
          · exact VLib.enc_byte _ _ y h
          · exact bytesOf_byte' _ y h
theorem wbsS_byte {l : List SR} (h : ∀ x ∈ l, RS x ∧ VS x) : ∀ y ∈ wbsS l, 0 ≤ y ∧ y ≤ 255 := by
  intro y hy
  unfold wbsS at hy
  obtain ⟨z, hz, hy⟩ := List.mem_flatten.1 hy
  obtain ⟨x, hx, rfl⟩ := List.mem_map.1 hz
  exact wbS_byte (h x hx).1 (h x hx).2 y hy
theorem wbsS_small : ∀ (l : List SR), (∀ x ∈ l, RS x) → (∀ x ∈ l, VS x ∧ x.f3.size ≤ 300) → (wbsS l).length ≤ l.length * 330
  | [], _, _ => by simp [wbsS]
  | x :: l, hr, h => by
    have h1 := wbS_le (h x (by simp)).1 (hr x (by simp))
    have h2 := wbsS_small l (fun y hy => hr y (by simp [hy])) (fun y hy => h y (by simp [hy]))
    have h3 := (h x (by simp)).2
    have e1 : wbsS (x :: l) = wbS x ++ wbsS l := by simp [wbsS]
    rw [e1, List.length_append, List.length_cons]
    omega
theorem C46_lt {w : World} {A : Option Addr} {xs : List SR} (h : Kd.C PRaw.k46 w A xs.length xs) : ∀ ad, A = some ad → 0 < xs.length → ad.block < w.heap.size := by
  intro ad ha hn
  obtain ⟨ad', e1, m0, _⟩ := PRaw.at_T46 h 0 (by omega) (by omega)
  rw [ha] at e1
  injection e1 with e1
  subst e1
  have := World.block_lt_of_cell? w _ m0
  simpa [Addr.add] using this
theorem RawPuts_no {w : World} {A A2 : Option Addr} {c c2 : Nat} {l m : List SR} (hr : Kd.C PRaw.k46 w A l.length l) (hc : l.length ≤ c) (hr2 : Kd.C PRaw.k46 w A2 m.length m) (hc2 : m.length ≤ c2) (rl rm : Bool)
    (hl : PRaw.ecdysislaw07_Small.f (2 * l.length + 2) l = some rl) (hm : PRaw.ecdysislaw07_Small.f (2 * m.length + 2) m = some rm) (h : rl = false ∨ rl = true ∧ rm = false) :
    Calls Try.prog 8 #[.slice A l.length c, .slice A2 m.length c2] w fun e w' => e = .returned (.bool true) ∧ Below w.heap.size w w' := by
  have HL := Aside0.mk live_raw
  have HSL := Aside0.mk (fun n => PRaw.ecdysislaw07_Small.calls _ _ c l rl (w.drewN n) (Kd.C_drewN hr n) hc hl)
  have HSL0 := Aside0.mk (PRaw.ecdysislaw07_Small.calls _ _ c l rl w hr hc hl)
  have HSM := Aside0.mk (fun n => PRaw.ecdysislaw07_Small.calls _ _ c2 m rm (w.drewN n) (Kd.C_drewN hr2 n) hc2 hm)
  clear hr hc hr2 hc2 hl hm
  rcases h with rfl | ⟨rfl, rfl⟩
  · go_enter Try.func8, Try.ntmps8
    go_wp2_with (first
      | (go_at_call 31; refine HSL0.out.mono ?_; rintro e w1 ⟨rfl, ⟨n1, rfl⟩⟩)
      | (go_at_call 23; refine (HL.out _).mono ?_; rintro e w7 ⟨rfl, b7⟩; have B7 := Aside0.mk b7; clear b7))
    go_ret
    exact ⟨rfl, (pw_below_drewN (Below.refl _ _) _).trans B7.out⟩
  · have tok := True.intro
    go_enter Try.func8, Try.ntmps8
    go_wp2_with (first
      | (go_at_call 31; have _t := tok; refine HSL0.out.mono ?_; rintro e w1 ⟨rfl, ⟨n1, rfl⟩⟩; clear tok)
      | (go_at_call 31; refine (HSM.out _).mono ?_; rintro e w2 ⟨rfl, ⟨n2, rfl⟩⟩)
      | (go_at_call 23; refine (HL.out _).mono ?_; rintro e w7 ⟨rfl, b7⟩; have B7 := Aside0.mk b7; clear b7))
    go_ret
    exact ⟨rfl, (pw_below_drewN (Below.refl _ _) _).trans B7.out⟩
theorem RawPuts_yes {w : World} {A A2 : Option Addr} {c c2 : Nat} {l m : List SR} (hr : Kd.C PRaw.k46 w A l.length l) (hc : l.length ≤ c) (hr2 : Kd.C PRaw.k46 w A2 m.length m) (hc2 : m.length ≤ c2)
    (hl : PRaw.ecdysislaw07_Small.f (2 * l.length + 2) l = some true) (hm : PRaw.ecdysislaw07_Small.f (2 * m.length + 2) m = some true) (hll : l.length ≤ 50) (hml : m.length ≤ 50) (hv : ∀ x ∈ l, VS x ∧ x.f3.size ≤ 300) :
    Calls Try.prog 8 #[.slice A l.length c, .slice A2 m.length c2] w fun e w' => e = .returned (.bool true) ∧ Below w.heap.size w w' := by
  have HL := Aside0.mk live_raw
  have HR := Aside0.mk hr
  have HR2 := Aside0.mk hr2
  have HC := Aside0.mk hc
  have HC2 := Aside0.mk hc2
  have HLL := Aside0.mk hll
  have HV := Aside0.mk hv
  have HSL0 := Aside0.mk (PRaw.ecdysislaw07_Small.calls _ _ c l true w hr hc hl)
  have HSM := Aside0.mk (fun n => PRaw.ecdysislaw07_Small.calls _ _ c2 m true (w.drewN n) (Kd.C_drewN hr2 n) hc2 hm)
  have HNUM := Aside0.mk (fun (k : Int) (w : World) => PRaw.ecdysislaw07_num.calls k k w rfl)
  have HS1 := Aside0.mk (same_f l m (by omega) (l.length + 1) (by omega))
  have HS2 := Aside0.mk (same_f l l (by omega) (l.length + 1) (by omega))
  have HS3 := Aside0.mk (refsame_f l m (by omega) (l.length + 1) (by omega))
  have HS4 := Aside0.mk (refsame_f l l (by omega) (l.length + 1) (by omega))
  have HA := Aside0.mk (all_f l (by omega) (l.length + 1) (by omega))
  clear hr hc hr2 hc2 hl hm hll hml hv
  have tok := True.intro
  go_enter Try.func8, Try.ntmps8
  go_wp2_with (first
    | (go_at_call 31; have _t := tok; refine HSL0.out.mono ?_; rintro e w1 ⟨rfl, ⟨n1, rfl⟩⟩; clear tok)
    | (go_at_call 31; refine (HSM.out _).mono ?_; rintro e w2 ⟨rfl, ⟨n2, rfl⟩⟩))
  go_loopg [5] (l.length) (fun kq v5 wr => ∃ (k : Nat), v5 = .int .i64 (k : Int) ∧ Aside0 (kq + k = l.length ∧ Below w.heap.size w wr))
  case atStart => exact ⟨0, rfl, ⟨by omega, pw_below_drewN (Below.refl _ _) _⟩⟩
  case round =>
    obtain ⟨k, rfl, HG⟩ := hrel
    obtain ⟨hk, hb⟩ := HG.out
    by_cases hlt : k < l.length
    · obtain ⟨ad, e1, m0, m1, m2, m3⟩ := PRaw.at_T46 HR.out (k : Int) (by omega) (by omega)
      subst e1
      have hxl := rdR_get hlt
      obtain ⟨x, hx⟩ : ∃ x, x = rdR l (k : Int) := ⟨_, rfl⟩
      have hx' : x = PRaw.rd_T46 l (k : Int) := hx
      rw [← hx'] at m0 m1 m2 m3
      rw [← hx] at hxl
      rw [Int.toNat_natCast] at m0 m1 m2 m3
      have hvx := (HV.out x (List.mem_of_getElem? hxl)).1
      have hdk : decide ((k : Int) < (l.length : Int)) = true := decide_eq_true (by omega)
      have hki : (k : Int) < (l.length : Int) := by omega
      have hk0 : (0 : Int) ≤ (k : Int) := by omega
      have hwi : IntKind.i64.wrap ((k : Int) + 1) = (k : Int) + 1 := by have := HLL.out; rw [IntKind.wrap_i64]; omega
      have HM := Aside0.mk (fun (W : World) (hW : Below w.heap.size w W) => And.intro (pw_cell_below hW m0) (And.intro (pw_cell_below hW m1) (And.intro (pw_cell_below hW m2) (pw_cell_below hW m3))))
      clear m0 m1 m2 m3
      obtain ⟨m0, m1, m2, m3⟩ := HM.out _ hb
      have hm := And.intro m0 (And.intro m1 (And.intro m2 m3))
      have HB := Aside0.mk hb
      have HK := Aside0.mk hk
      have H1 := Aside0.mk (fun w => PRaw.raw_Right.calls 1 x.f0 x.f1 x.f2 x.f3 _ w (right_raw x hvx))
      have H2 := Aside0.mk (fun w => PRaw.ecdysisref07_Right.calls x.f0 x.f1 x.f2 x.f3 _ w (right_ref x))
      obtain ⟨r, hrr⟩ : ∃ r, r = decide (RS x) := ⟨_, rfl⟩
      rw [← hrr] at H1 H2
      clear hk hb hlt hx hx' hxl hvx hrr HG
      cases r
      all_goals
        go_wp2_with fail
        go_region_held3 (fun w' => w'.cell? (ad.add (k * 4)) = some (.int .i64 x.f0) ∧ w'.cell? ⟨(ad.add (k * 4)).block, (ad.add (k * 4)).off + 1, none⟩ = some (.int .i64 x.f1) ∧ w'.cell? ⟨(ad.add (k * 4)).block, (ad.add (k * 4)).off + 2, none⟩ = some (.int .u64 x.f2) ∧ w'.cell? ⟨(ad.add (k * 4)).block, (ad.add (k * 4)).off + 3, none⟩ = some (.string x.f3)) (first | exact hm | exact CM2.out | exact CM3.out | go_keep) (first
          | (go_at_call 32; refine (H1.out _).mono ?_; rintro e' w3 ⟨rfl, b3⟩
             have b3' : Below wr.heap.size wr w3 := by first | exact b3 | exact (pw_below_drewN (Below.refl _ _) _).trans b3
             have B3 := Aside0.mk (HB.out.trans (b3'.mono HB.out.size))
             have CM3 := Aside0.mk (HM.out _ B3.out); clear b3 b3')
          | (go_at_call 33; refine (H2.out _).mono ?_; rintro e' w4 ⟨rfl, b4⟩
             have b4' : Below w3.heap.size w3 w4 := by first | exact b4 | exact (pw_below_drewN (Below.refl _ _) _).trans b4
             have B4 := Aside0.mk (B3.out.trans (b4'.mono B3.out.size))
             have CM2 := Aside0.mk (HM.out _ B4.out); clear b4 b4')
          | fail)
        go_wp2_with fail
        go_roundg (gk - 1)
        case measure => have := HK.out; omega
        case rel => exact ⟨k + 1, by rw [Int.natCast_add]; rfl, ⟨by have := HK.out; omega, B4.out⟩⟩
    · have hdk : decide ((k : Int) < (l.length : Int)) = false := decide_eq_false (by omega)
      have hdk2 : decide (k < l.length) = false := decide_eq_false (by omega)
      have HB := Aside0.mk hb
      have hrl : ∀ k, (∀ x ∈ l.take k, RS x) → (wbsS (l.take k)).length ≤ 16500 := fun k hk => by
        have h1 := wbsS_small (l.take k) hk (fun x hx => HV.out x (List.mem_of_mem_take hx))
        have h2 : (l.take k).length ≤ 50 := by rw [List.length_take]; have := HLL.out; omega
        omega
      have HPUT := Aside0.mk (Put_c (Kd.C_below HR.out hb) HC.out (fun ad ha hn => Nat.lt_of_lt_of_le (C46_lt HR.out ad ha hn) hb.size) (fun x hx => (HV.out x hx).1) (Nat.le_trans HLL.out (by decide)) (fun k hk => Nat.le_trans (hrl k hk) (by decide)))
      have tokS := True.intro
      have tokR := True.intro
      by_cases hall : ∀ x ∈ l, RS x
      · have HNA := Aside0.mk hall
        have HALL : Aside0 (allB l = true) := ⟨List.all_eq_true.2 (fun x hx => decide_eq_true (hall x hx))⟩
        have hrv : ∀ x ∈ l, RS x ∧ VS x := fun x hx => ⟨hall x hx, (HV.out x hx).1⟩
        have HPAR := Aside0.mk (par_put l hrv)
        have HBY := Aside0.mk (wbsS_byte hrv)
        have HWL : Aside0 ((wbsS l).length ≤ 16500) := ⟨by have h1 := hrl l.length (by rw [List.take_length]; exact hall); rw [List.take_length] at h1; exact h1⟩
        have HVR := Aside0.mk (fun x hx => And.intro (hrv x hx).2 (hrv x hx).1)
        clear hk hb hlt HG hall hrl hrv
        go_wp2_with (first
          | (go_at_call 29; refine HPUT.out.mono ?_; rintro e w3 ⟨b3, q3, _⟩; obtain ⟨vb, rfl, h3⟩ := q3 HNA.out; obtain ⟨Ab, cb, rfl⟩ := Kd.R_slice h3; have B3 := Aside0.mk (HB.out.trans (b3.mono HB.out.size)); have R3 := Aside0.mk h3; clear b3 q3 h3)
          | (go_at_call 34; have _t := tokS; refine (PRaw.raw_Same.calls (l.length + 1) _ _ l _ _ m _ _ (Kd.C_below HR.out B3.out) HC.out (Kd.C_below HR2.out B3.out) HC2.out HS1.out).mono ?_; rintro e w4 ⟨rfl, hd4⟩; have B4 := Aside0.mk (B3.out.trans (Drawn0.bel hd4)); have R4 := Aside0.mk (Kd.R_below R3.out (Drawn0.bel hd4)); clear tokS hd4)
          | (go_at_call 34; refine (PRaw.raw_Same.calls (l.length + 1) _ _ l _ _ l _ _ (Kd.C_below HR.out B5.out) HC.out (Kd.C_below HR.out B5.out) HC.out HS2.out).mono ?_; rw [sameB_self]; rintro e w6 ⟨rfl, hd6⟩; have B6 := Aside0.mk (B5.out.trans (Drawn0.bel hd6)); have R6 := Aside0.mk (Kd.R_below R5.out (Drawn0.bel hd6)); clear hd6)
          | (go_at_call 30; have _t := tokR; refine (PRaw.ecdysisref07_Same.calls (l.length + 1) _ _ l _ _ m _ _ (Kd.C_below HR.out B4.out) HC.out (Kd.C_below HR2.out B4.out) HC2.out HS3.out).mono ?_; rintro e w5 ⟨rfl, hd5⟩; have B5 := Aside0.mk (B4.out.trans (Drawn0.bel hd5)); have R5 := Aside0.mk (Kd.R_below R4.out (Drawn0.bel hd5)); clear tokR hd5)
          | (go_at_call 35; refine (PRaw.ecdysisref07_All.calls (l.length + 1) _ _ l _ _ (Kd.C_below HR.out B6.out) HC.out HA.out).mono ?_; rw [HALL.out]; rintro e w7 ⟨rfl, hb7⟩; have B7 := Aside0.mk (B6.out.trans (hb7.mono B6.out.size)); have R7 := Aside0.mk (Kd.R_below R6.out hb7); clear hb7)
          | (go_at_call 27
             refine (Get_c (b := wbsS l) (Kd.R_reads' R7.out).2.2 (Kd.R_reads' R7.out).2.1 (C_lt (Kd.R_reads' R7.out).2.2) HBY.out (Nat.le_trans HWL.out (by decide))).mono ?_
             rintro e w8 ⟨b8, q8, _⟩
             obtain ⟨vo, rfl, h8⟩ := q8 HPAR.out.1
             rw [HPAR.out.2] at h8
             obtain ⟨Ax, cx, rfl⟩ := Kd.R_slice h8
             have B8 := Aside0.mk (B7.out.trans (b8.mono B7.out.size))
             have R8 := Aside0.mk (Kd.R_below R7.out b8)
             have X8 := Aside0.mk h8
             have tokN := True.intro
             clear b8 q8 h8)
          | (go_at_call 28; have _t := tokN; refine (HNUM.out _ _).mono ?_; rintro e w9 ⟨rfl, hd9⟩; have B9 := Aside0.mk (B8.out.trans (Drawn0.bel hd9)); have R9 := Aside0.mk (Kd.R_below R8.out (Drawn0.bel hd9)); have X9 := Aside0.mk (Kd.R_below X8.out (Drawn0.bel hd9)); clear tokN hd9)
          | (go_at_call 37
             refine (RPut_c (Kd.C_below HR.out B9.out) HVR.out (Nat.le_trans HLL.out (by decide))).mono ?_
             rintro e w10 ⟨vp, rfl, h10, b10⟩
             obtain ⟨Ap, cp, rfl⟩ := Kd.R_slice h10
             have B10 := Aside0.mk (B9.out.trans (b10.mono B9.out.size))
             have R10 := Aside0.mk (Kd.R_below R9.out b10)
             have X10 := Aside0.mk (Kd.R_below X9.out b10)
             have P10 := Aside0.mk h10
             clear h10 b10)
          | (go_at_call 36
             refine (PLib.ecdysisref01_Bytes.calls _ _ (wbsS l) _ _ (wbsS l) true _ (Kd.R_reads' R10.out).2.2 (Kd.R_reads' R10.out).2.1 (Kd.R_reads' P10.out).2.2 (Kd.R_reads' P10.out).2.1 (VLib.bytes_self _)).mono ?_
             rintro e w11 ⟨rfl, hd11⟩
             have B11 := Aside0.mk (B10.out.trans (Drawn0.bel hd11))
             have X11 := Aside0.mk (Kd.R_below X10.out (Drawn0.bel hd11))
             clear hd11)
          | (go_at_call 28; refine (HNUM.out _ _).mono ?_; rintro e w12 ⟨rfl, hd12⟩; have B12 := Aside0.mk (B11.out.trans (Drawn0.bel hd12)); have X12 := Aside0.mk (Kd.R_below X11.out (Drawn0.bel hd12)); clear hd12)
          | (go_at_call 30; refine (PRaw.ecdysisref07_Same.calls (l.length + 1) _ _ l _ _ l _ _ (Kd.R_reads' X12.out).2.2 (Kd.R_reads' X12.out).2.1 (Kd.C_below HR.out B12.out) HC.out HS4.out).mono ?_; rw [sameB_self]; rintro e w13 ⟨rfl, hd13⟩; have B13 := Aside0.mk (B12.out.trans (Drawn0.bel hd13)); clear hd13)
          | (go_at_call 23; refine (HL.out _).mono ?_; rintro e w20 ⟨rfl, b20⟩; have B20 := Aside0.mk b20; clear b20))
        go_ret
        exact ⟨rfl, B13.out.trans (B20.out.mono B13.out.size)⟩
      · have HNA := Aside0.mk hall
        have HALL : Aside0 (allB l = false) := ⟨by
          rcases h1 : allB l with _ | _
          · rfl
          · exact absurd (fun x hx => of_decide_eq_true (List.all_eq_true.1 h1 x hx)) hall⟩
        clear hk hb hlt HG hall hrl
        go_wp2_with (first
          | (go_at_call 29; refine HPUT.out.mono ?_; rintro e w3 ⟨b3, _, q3⟩; obtain rfl := q3 HNA.out; have B3 := Aside0.mk (HB.out.trans (b3.mono HB.out.size)); clear b3 q3)
          | (go_at_call 34; have _t := tokS; refine (PRaw.raw_Same.calls (l.length + 1) _ _ l _ _ m _ _ (Kd.C_below HR.out B3.out) HC.out (Kd.C_below HR2.out B3.out) HC2.out HS1.out).mono ?_; rintro e w4 ⟨rfl, hd4⟩; have B4 := Aside0.mk (B3.out.trans (Drawn0.bel hd4)); clear tokS hd4)
          | (go_at_call 34; refine (PRaw.raw_Same.calls (l.length + 1) _ _ l _ _ l _ _ (Kd.C_below HR.out B5.out) HC.out (Kd.C_below HR.out B5.out) HC.out HS2.out).mono ?_; rw [sameB_self]; rintro e w6 ⟨rfl, hd6⟩; have B6 := Aside0.mk (B5.out.trans (Drawn0.bel hd6)); clear hd6)
          | (go_at_call 30; have _t := tokR; refine (PRaw.ecdysisref07_Same.calls (l.length + 1) _ _ l _ _ m _ _ (Kd.C_below HR.out B4.out) HC.out (Kd.C_below HR2.out B4.out) HC2.out HS3.out).mono ?_; rintro e w5 ⟨rfl, hd5⟩; have B5 := Aside0.mk (B4.out.trans (Drawn0.bel hd5)); clear tokR hd5)
          | (go_at_call 35; refine (PRaw.ecdysisref07_All.calls (l.length + 1) _ _ l _ _ (Kd.C_below HR.out B6.out) HC.out HA.out).mono ?_; rw [HALL.out]; rintro e w7 ⟨rfl, hb7⟩; have B7 := Aside0.mk (B6.out.trans (hb7.mono B6.out.size)); clear hb7)
          | (go_at_call 28; refine (HNUM.out _ _).mono ?_; rintro e w8 ⟨rfl, hd8⟩; have B8 := Aside0.mk (B7.out.trans (Drawn0.bel hd8)); clear hd8)
          | (go_at_call 23; refine (HL.out _).mono ?_; rintro e w20 ⟨rfl, b20⟩; have B20 := Aside0.mk b20; clear b20))
        go_ret
        exact ⟨rfl, B8.out.trans (B20.out.mono B8.out.size)⟩
/-- What each number and text is. -/
def OkRows (l : List SR) : Prop := ∀ x ∈ l, (Lit.int .i64 x.f0).wf = true ∧ (Lit.int .i64 x.f1).wf = true ∧ (Lit.int .u64 x.f2).wf = true ∧ x.f3.size ≤ maxLen
theorem open_rows : Open.Opens Try.prog (Kd.slice 46 PRaw.k46) OkRows 38 :=
  Open.opens_slice Try.underlying38 (by kernel_rfl) (Open.opens_struct (fun y => (⟨y.1, y.2.1, y.2.2.1, y.2.2.2⟩ : SR)) (fun x : SR => (x.f0, x.f1, x.f2, x.f3)) (fun _ => rfl) Try.underlying46 (by kernel_rfl)
    (Open.fields_cons rfl (by kernel_rfl) (Open.opens_int Try.underlying3) rfl (Open.fields_cons rfl (by kernel_rfl) (Open.opens_int Try.underlying3) rfl (Open.fields_cons rfl (by kernel_rfl) (Open.opens_int Try.underlying26) rfl (Open.fields_last rfl (by kernel_rfl) (Open.opens_string Try.underlying9))))))
theorem RawPuts_q {w : World} {A A2 : Option Addr} {c c2 : Nat} {l m : List SR} (hr : Kd.C PRaw.k46 w A l.length l) (hc : l.length ≤ c) (hr2 : Kd.C PRaw.k46 w A2 m.length m) (hc2 : m.length ≤ c2)
    (hl : OkRows l) (_hm : OkRows m) (sl : l.length ≤ 4000000000000) (sm : m.length ≤ 4000000000000) :
    Calls Try.prog 8 #[.slice A l.length c, .slice A2 m.length c2] w fun e w' => e = .returned (.bool true) ∧ Below w.heap.size w w' := by
  obtain ⟨rl, h1, h2⟩ := small_f l sl
  obtain ⟨rm, h3, h4⟩ := small_f m sm
  cases rl with
  | false => exact RawPuts_no hr hc hr2 hc2 false rm h1 h3 (.inl rfl)
  | true =>
    cases rm with
    | false => exact RawPuts_no hr hc hr2 hc2 true false h1 h3 (.inr ⟨rfl, rfl⟩)
    | true =>
      obtain ⟨q1, q2⟩ := h2 rfl
      exact RawPuts_yes hr hc hr2 hc2 h1 h3 q1 (h4 rfl).1 (fun x hx => ⟨⟨Var.u64_of (hl x hx).2.2.1, by have := q2 x hx; omega⟩, q2 x hx⟩)
end Go.Proofs.Ytfbmabhdjliohaa.Cur
