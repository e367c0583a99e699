/- Trees: kinds, level by level; conditions stand at each. -/
import Derived.Test.YtbpnfpckoapdbaaPTrx
import Derived.Test.YtbpnfpckoapdbaaOpenW
namespace Go.Proofs.Ytbpnfpckoapdbaa.Tr
open Go.RowKit Go.Proofs.YtbpnfpckoapdbaaW.PrintWords Go.Proofs.YtbpnfpckoapdbaaW.PrintLast Go.Proofs.YtbpnfpckoapdbaaW.PrintMore Go.Proofs.Ytbpnfpckoapdbaa.Open
set_option linter.unusedVariables false
abbrev SR := PTr.S73
abbrev kR := PTr.k73
/-- A value, over whatever stands for trees. -/
structure SV (α : Type) where
  n : Int
  s : ByteArray
  m : List α
structure SS (α : Type) where
  num : Int
  vals : List (SV α)
structure ST (α : Type) where
  slots : List (SS α)
  rest : List SR
section
variable {α : Type}
def SV.z : SV α := ⟨0, ⟨#[]⟩, []⟩
def SS.z : SS α := ⟨0, []⟩
def ST.z : ST α := ⟨[], []⟩
def kV (d : Kd α) : Kd (SV α) := Kd.iso (Kd.pair (Kd.int .u64) (Kd.pair Kd.string (Kd.slice 25 d))) (fun x => (x.n, x.s, x.m))
def kS (d : Kd α) : Kd (SS α) := Kd.iso (Kd.pair (Kd.int .i64) (Kd.slice 70 (kV d))) (fun x => (x.num, x.vals))
def kT (d : Kd α) : Kd (ST α) := Kd.iso (Kd.pair (Kd.slice 59 (kS d)) (Kd.slice 73 kR)) (fun x => (x.slots, x.rest))
variable {d : Kd α} {w : World}
theorem kV_open {x : SV α} {cs : List Value} (h : (kV d).K w x cs) : ∃ A c, cs = [.int .u64 x.n, .string x.s, .slice A x.m.length c] ∧ x.m.length ≤ c ∧ d.C w A x.m.length x.m := by
  obtain ⟨_, _, rfl, rfl, ⟨_, _, rfl, rfl, ⟨A, c, rfl, l, g⟩⟩⟩ := h
  exact ⟨A, c, rfl, l, g⟩
theorem kV_mk {x : SV α} {A : Option Addr} {c : Nat} (l : x.m.length ≤ c) (g : d.C w A x.m.length x.m) : (kV d).K w x [.int .u64 x.n, .string x.s, .slice A x.m.length c] :=
  ⟨[.int .u64 x.n], _, rfl, rfl, ⟨[.string x.s], _, rfl, rfl, ⟨A, c, rfl, l, g⟩⟩⟩
theorem kS_open {x : SS α} {cs : List Value} (h : (kS d).K w x cs) : ∃ A c, cs = [.int .i64 x.num, .slice A x.vals.length c] ∧ x.vals.length ≤ c ∧ (kV d).C w A x.vals.length x.vals := by
  obtain ⟨_, _, rfl, rfl, ⟨A, c, rfl, l, g⟩⟩ := h
  exact ⟨A, c, rfl, l, g⟩
theorem kS_mk {x : SS α} {A : Option Addr} {c : Nat} (l : x.vals.length ≤ c) (g : (kV d).C w A x.vals.length x.vals) : (kS d).K w x [.int .i64 x.num, .slice A x.vals.length c] :=
  ⟨[.int .i64 x.num], _, rfl, rfl, ⟨A, c, rfl, l, g⟩⟩
theorem kT_open {x : ST α} {cs : List Value} (h : (kT d).K w x cs) : ∃ A c A' c', cs = [.slice A x.slots.length c, .slice A' x.rest.length c'] ∧ x.slots.length ≤ c ∧ (kS d).C w A x.slots.length x.slots ∧ x.rest.length ≤ c' ∧ kR.C w A' x.rest.length x.rest := by
  obtain ⟨_, _, rfl, ⟨A, c, rfl, l, g⟩, ⟨A', c', rfl, l', g'⟩⟩ := h
  exact ⟨A, c, A', c', rfl, l, g, l', g'⟩
theorem kT_mk {x : ST α} {A A' : Option Addr} {c c' : Nat} (l : x.slots.length ≤ c) (g : (kS d).C w A x.slots.length x.slots) (l' : x.rest.length ≤ c') (g' : kR.C w A' x.rest.length x.rest) : (kT d).K w x [.slice A x.slots.length c, .slice A' x.rest.length c'] :=
  ⟨[.slice A x.slots.length c], _, rfl, ⟨A, c, rfl, l, g⟩, ⟨A', c', rfl, l', g'⟩⟩
def rdV (xs : List (SV α)) (i : Nat) : SV α := xs.getD i SV.z
def rdS (xs : List (SS α)) (i : Nat) : SS α := xs.getD i SS.z
theorem at_V {A : Option Addr} {n : Nat} {xs : List (SV α)} (h : (kV d).C w A n xs) (i : Nat) (h1 : i < n) :
    ∃ ad A2 c2, A = some ad ∧ w.cell? (ad.add (i * 3)) = some (.int .u64 (rdV xs i).n) ∧ w.cell? ⟨(ad.add (i * 3)).block, (ad.add (i * 3)).off + 1, none⟩ = some (.string (rdV xs i).s) ∧
      w.cell? ⟨(ad.add (i * 3)).block, (ad.add (i * 3)).off + 2, none⟩ = some (.slice A2 (rdV xs i).m.length c2) ∧ (rdV xs i).m.length ≤ c2 ∧ d.C w A2 (rdV xs i).m.length (rdV xs i).m := by
  obtain ⟨ad, c, e, _, hK, hc0⟩ := Kd.C_get h SV.z i (by omega) (by omega)
  have hc : ∀ j u, c[j]? = some u → w.cell? (ad.add (i * 3 + j)) = some u := hc0
  obtain ⟨A2, c2, rfl, l2, g2⟩ := kV_open hK
  exact ⟨ad, A2, c2, e, hc 0 _ rfl, by rw [← add_field _ _ 1 (by omega)]; exact hc 1 _ rfl, by rw [← add_field _ _ 2 (by omega)]; exact hc 2 _ rfl, l2, g2⟩
theorem at_S {A : Option Addr} {n : Nat} {xs : List (SS α)} (h : (kS d).C w A n xs) (i : Nat) (h1 : i < n) :
    ∃ ad A1 c1, A = some ad ∧ w.cell? (ad.add (i * 2)) = some (.int .i64 (rdS xs i).num) ∧ w.cell? ⟨(ad.add (i * 2)).block, (ad.add (i * 2)).off + 1, none⟩ = some (.slice A1 (rdS xs i).vals.length c1) ∧
      (rdS xs i).vals.length ≤ c1 ∧ (kV d).C w A1 (rdS xs i).vals.length (rdS xs i).vals := by
  obtain ⟨ad, c, e, _, hK, hc0⟩ := Kd.C_get h SS.z i (by omega) (by omega)
  have hc : ∀ j u, c[j]? = some u → w.cell? (ad.add (i * 2 + j)) = some u := hc0
  obtain ⟨A1, c1, rfl, l1, g1⟩ := kS_open hK
  exact ⟨ad, A1, c1, e, hc 0 _ rfl, by rw [← add_field _ _ 1 (by omega)]; exact hc 1 _ rfl, l1, g1⟩
theorem at_Vk {A : Option Addr} {n : Nat} {xs : List (SV α)} (h : (kV d).C w A n xs) (i : Nat) (h1 : i < n) :
    ∃ ad A2 c2 x, A = some ad ∧ xs[i]? = some x ∧ w.cell? (ad.add (i * 3)) = some (.int .u64 x.n) ∧ w.cell? ⟨(ad.add (i * 3)).block, (ad.add (i * 3)).off + 1, none⟩ = some (.string x.s) ∧
      w.cell? ⟨(ad.add (i * 3)).block, (ad.add (i * 3)).off + 2, none⟩ = some (.slice A2 x.m.length c2) ∧ (kV d).K w x [.int .u64 x.n, .string x.s, .slice A2 x.m.length c2] := by
  have hl : i < xs.length := by have := h.1; omega
  obtain ⟨ad, A2, c2, h2, h3, h4, h5, h6, h7⟩ := at_V h i h1
  have hr : rdV xs i = xs[i] := by unfold rdV; rw [List.getD_eq_getElem?_getD, List.getElem?_eq_getElem hl]; rfl
  rw [hr] at h3 h4 h5 h6 h7
  exact ⟨ad, A2, c2, xs[i], h2, List.getElem?_eq_getElem hl, h3, h4, h5, kV_mk h6 h7⟩
theorem at_Sk {A : Option Addr} {n : Nat} {xs : List (SS α)} (h : (kS d).C w A n xs) (i : Nat) (h1 : i < n) :
    ∃ ad A1 c1 x, A = some ad ∧ xs[i]? = some x ∧ w.cell? (ad.add (i * 2)) = some (.int .i64 x.num) ∧ w.cell? ⟨(ad.add (i * 2)).block, (ad.add (i * 2)).off + 1, none⟩ = some (.slice A1 x.vals.length c1) ∧
      (kS d).K w x [.int .i64 x.num, .slice A1 x.vals.length c1] := by
  have hl : i < xs.length := by have := h.1; omega
  obtain ⟨ad, A1, c1, h2, h3, h4, h5, h6⟩ := at_S h i h1
  have hr : rdS xs i = xs[i] := by unfold rdS; rw [List.getD_eq_getElem?_getD, List.getElem?_eq_getElem hl]; rfl
  rw [hr] at h3 h4 h5 h6
  exact ⟨ad, A1, c1, xs[i], h2, List.getElem?_eq_getElem hl, h3, h4, kS_mk h5 h6⟩
/-- Whatever stands for trees: two slices. -/
structure Two {β : Type} (d : Kd β) : Prop where
  sz : d.sz = 2
  two : ∀ {w : World} {x : β} {cs : List Value}, d.K w x cs → ∃ A n c A' n' c', cs = [.slice A n c, .slice A' n' c']
/-- A tree in a row. -/
theorem at_T {β : Type} {d : Kd β} (hd : Two d) {A : Option Addr} {n : Nat} {xs : List β} (h : d.C w A n xs) (i : Nat) (h1 : i < n) : ∃ ad A1 n1 c1 A2 n2 c2 x, A = some ad ∧ xs[i]? = some x ∧ w.cell? (ad.add (i * 2)) = some (.slice A1 n1 c1) ∧ w.cell? ⟨(ad.add (i * 2)).block, (ad.add (i * 2)).off + 1, none⟩ = some (.slice A2 n2 c2) ∧ d.K w x [.slice A1 n1 c1, .slice A2 n2 c2] := by
  have hl : i < xs.length := by have := h.1; omega
  obtain ⟨ad, c, e, hs, hK, hc0⟩ := Kd.C_get h xs[i] i (by omega) (by omega)
  rw [hd.sz] at hc0
  have hc : ∀ j u, c[j]? = some u → w.cell? (ad.add (i * 2 + j)) = some u := hc0
  obtain ⟨A1, n1, c1, A2, n2, c2, rfl⟩ := hd.two hK
  refine ⟨ad, A1, n1, c1, A2, n2, c2, xs[i], e, List.getElem?_eq_getElem hl, hc 0 _ rfl, by rw [← add_field _ _ 1 (by omega)]; exact hc 1 _ rfl, ?_⟩
  have : xs.getD (i : Int).toNat xs[i] = xs[i] := by rw [Int.toNat_natCast, List.getD_eq_getElem?_getD, List.getElem?_eq_getElem hl]; rfl
  rw [this] at hK
  exact hK
end
/-- No tree. -/
def k0 : Kd Empty where
  sz := 2
  E := []
  K := fun _ _ _ => False
  M := fun _ _ _ _ _ => False
  K_len := fun h => h.elim
  K_one := fun h => h.elim
  K_below := fun _ h => h
  K_of_M := fun h => h
  M_mono := fun _ h => h
  M_bound := fun h => h
  M_move := fun _ h => h
  M_lower := fun _ h => h
def TN : Nat → Type
  | 0 => Empty
  | n + 1 => ST (TN n)
/-- Trees no deeper than so much. -/
def kN : (n : Nat) → Kd (TN n)
  | 0 => k0
  | n + 1 => kT (kN n)
theorem kT_two {β : Type} (d : Kd β) : Two (kT d) := ⟨rfl, fun h => by
  obtain ⟨A, c, A', c', rfl, _⟩ := kT_open h
  exact ⟨_, _, _, _, _, _, rfl⟩⟩
theorem kN_two : ∀ n, Two (kN n)
  | 0 => ⟨rfl, fun h => h.elim⟩
  | n + 1 => kT_two _
theorem kN_sz : ∀ n, (kN n).sz = 2
  | 0 => rfl
  | n + 1 => rfl
/-! What comes in is a tree. -/
section
variable {α : Type}
def okV (ok : α → Prop) (x : SV α) : Prop := (Lit.int .u64 x.n).wf = true ∧ x.s.size ≤ reachBytes ∧ x.m.length * 48 ≤ reachBytes ∧ ∀ y ∈ x.m, ok y
def okS (ok : α → Prop) (x : SS α) : Prop := (Lit.int .i64 x.num).wf = true ∧ x.vals.length * 48 ≤ reachBytes ∧ ∀ y ∈ x.vals, okV ok y
def okR (x : SR) : Prop := (Lit.int .i64 x.f0).wf = true ∧ (Lit.int .i64 x.f1).wf = true ∧ (Lit.int .u64 x.f2).wf = true ∧ x.f3.size ≤ reachBytes
def okT (ok : α → Prop) (x : ST α) : Prop := (x.slots.length * 32 ≤ reachBytes ∧ ∀ y ∈ x.slots, okS ok y) ∧ x.rest.length * 40 ≤ reachBytes ∧ ∀ y ∈ x.rest, okR y
end
def okN : (n : Nat) → TN n → Prop
  | 0 => fun _ => True
  | n + 1 => okT (okN n)
theorem opensR (n : Nat) : OpensW n Try.prog kR okR 73 :=
  opensW_struct (mk := fun y : Int × Int × Int × ByteArray => (⟨y.1, y.2.1, y.2.2.1, y.2.2.2⟩ : SR)) (proj := fun x => (x.f0, x.f1, x.f2, x.f3)) (fun _ => rfl) Try.underlying73 (by kernel_rfl) fun n _ =>
    fieldsW_cons rfl (by kernel_rfl) ((opens_int Try.underlying3).toW n) rfl (fieldsW_cons rfl (by kernel_rfl) ((opens_int Try.underlying3).toW n) rfl (fieldsW_cons rfl (by kernel_rfl) ((opens_int Try.underlying67).toW n) rfl (fieldsW_last rfl (by kernel_rfl) (opensW_string Try.underlying9))))
theorem cellsT : Try.prog.cellsOf 25 = 2 := by kernel_rfl
theorem cellsS : Try.prog.cellsOf 59 = 2 := by kernel_rfl
theorem cellsV : Try.prog.cellsOf 70 = 3 := by kernel_rfl
section
variable {α : Type} {d : Kd α} {ok : α → Prop}
theorem kV_sz : (kV d).sz = 3 := rfl
theorem kS_sz : (kS d).sz = 2 := rfl
theorem kT_sz : (kT d).sz = 2 := rfl
theorem opensV (hd : d.sz = 2) (fuel : Nat) (h : ∀ n, fuel = n + 2 → OpensW n Try.prog d ok 25) : OpensW fuel Try.prog (kV d) (okV ok) 70 := by
  have h1 : Try.prog.cellsOf 70 = (Kd.pair (Kd.int .u64) (Kd.pair (Kd.string) (Kd.slice 25 d))).sz := cellsV
  refine opensW_struct (d := Kd.pair (Kd.int .u64) (Kd.pair (Kd.string) (Kd.slice 25 d))) (Ok := fun x : Int × ByteArray × List α => ((Lit.int .u64 x.1).wf = true) ∧ (x.2.1.size ≤ reachBytes) ∧ (x.2.2.length * 48 ≤ reachBytes ∧ ∀ y ∈ x.2.2, ok y)) (mk := fun y => (⟨y.1, y.2.1, y.2.2⟩ : SV α)) (proj := fun x => (x.n, x.s, x.m)) (fun _ => rfl) Try.underlying70 h1 fun f e => ?_
  have c0 : Try.prog.cellsOf 67 = 1 := by kernel_rfl
  have c1 : Try.prog.cellsOf 9 = 1 := by kernel_rfl
  have c2 : Try.prog.cellsOf 68 = 1 := by kernel_rfl
  have g0 : OpensW f Try.prog (Kd.int .u64) (fun n => (Lit.int .u64 n).wf = true) 67 := (opens_int Try.underlying67).toW f
  have g1 : OpensW f Try.prog Kd.string (fun x => x.size ≤ reachBytes) 9 := opensW_string Try.underlying9
  have b2 : Try.prog.bytesOf 25 = 48 := by kernel_rfl
  have g2 : OpensW f Try.prog (Kd.slice 25 d) (fun l => l.length * 48 ≤ reachBytes ∧ ∀ y ∈ l, ok y) 68 := opensW_slice Try.underlying68 (cellsT.trans hd.symm) b2 fun f1 e1 => h f1 (by omega)
  refine fieldsW_cons (off' := 1) (Ok := fun x : Int => (Lit.int .u64 x).wf = true) (Ok' := fun x : ByteArray × List α => (x.1.size ≤ reachBytes) ∧ (x.2.length * 48 ≤ reachBytes ∧ ∀ y ∈ x.2, ok y)) ?_ ?_ ?_ ?_ ?_
  · exact rfl
  · exact c0
  · exact g0
  · exact rfl
  refine fieldsW_cons (off' := 2) (Ok := fun x : ByteArray => x.size ≤ reachBytes) (Ok' := fun x : List α => (x.length * 48 ≤ reachBytes ∧ ∀ y ∈ x, ok y)) ?_ ?_ ?_ ?_ ?_
  · exact rfl
  · exact c1
  · exact g1
  · exact rfl
  refine fieldsW_last ?_ ?_ ?_
  · exact rfl
  · exact c2
  · exact g2
theorem opensS (hd : d.sz = 2) (fuel : Nat) (h : ∀ n, fuel = n + 4 → OpensW n Try.prog d ok 25) : OpensW fuel Try.prog (kS d) (okS ok) 59 := by
  have h1 : Try.prog.cellsOf 59 = (Kd.pair (Kd.int .i64) (Kd.slice 70 (kV d))).sz := cellsS
  refine opensW_struct (d := Kd.pair (Kd.int .i64) (Kd.slice 70 (kV d))) (Ok := fun x : Int × List (SV α) => ((Lit.int .i64 x.1).wf = true) ∧ (x.2.length * 48 ≤ reachBytes ∧ ∀ y ∈ x.2, okV ok y)) (mk := fun y => (⟨y.1, y.2⟩ : SS α)) (proj := fun x => (x.num, x.vals)) (fun _ => rfl) Try.underlying59 h1 fun f e => ?_
  have c0 : Try.prog.cellsOf 3 = 1 := by kernel_rfl
  have c1 : Try.prog.cellsOf 57 = 1 := by kernel_rfl
  have g0 : OpensW f Try.prog (Kd.int .i64) (fun n => (Lit.int .i64 n).wf = true) 3 := (opens_int Try.underlying3).toW f
  have b1 : Try.prog.bytesOf 70 = 48 := by kernel_rfl
  have g1 : OpensW f Try.prog (Kd.slice 70 (kV d)) (fun l => l.length * 48 ≤ reachBytes ∧ ∀ y ∈ l, okV ok y) 57 := opensW_slice Try.underlying57 cellsV b1 fun f1 e1 => opensV hd f1 fun f2 e2 => h f2 (by omega)
  refine fieldsW_cons (off' := 1) (Ok := fun x : Int => (Lit.int .i64 x).wf = true) (Ok' := fun x : List (SV α) => (x.length * 48 ≤ reachBytes ∧ ∀ y ∈ x, okV ok y)) ?_ ?_ ?_ ?_ ?_
  · exact rfl
  · exact c0
  · exact g0
  · exact rfl
  refine fieldsW_last ?_ ?_ ?_
  · exact rfl
  · exact c1
  · exact g1
theorem opensT (hd : d.sz = 2) (fuel : Nat) (h : ∀ n, fuel = n + 6 → OpensW n Try.prog d ok 25) : OpensW fuel Try.prog (kT d) (okT ok) 25 := by
  have h1 : Try.prog.cellsOf 25 = (Kd.pair (Kd.slice 59 (kS d)) (Kd.slice 73 kR)).sz := cellsT
  refine opensW_struct (d := Kd.pair (Kd.slice 59 (kS d)) (Kd.slice 73 kR)) (Ok := fun x : List (SS α) × List SR => (x.1.length * 32 ≤ reachBytes ∧ ∀ y ∈ x.1, okS ok y) ∧ (x.2.length * 40 ≤ reachBytes ∧ ∀ y ∈ x.2, okR y)) (mk := fun y => (⟨y.1, y.2⟩ : ST α)) (proj := fun x => (x.slots, x.rest)) (fun _ => rfl) Try.underlying25 h1 fun f e => ?_
  have c0 : Try.prog.cellsOf 22 = 1 := by kernel_rfl
  have c1 : Try.prog.cellsOf 23 = 1 := by kernel_rfl
  have b0 : Try.prog.bytesOf 59 = 32 := by kernel_rfl
  have g0 : OpensW f Try.prog (Kd.slice 59 (kS d)) (fun l => l.length * 32 ≤ reachBytes ∧ ∀ y ∈ l, okS ok y) 22 := opensW_slice Try.underlying22 cellsS b0 fun f1 e1 => opensS hd f1 fun f2 e2 => h f2 (by omega)
  have b1 : Try.prog.bytesOf 73 = 40 := by kernel_rfl
  have g1 : OpensW f Try.prog (Kd.slice 73 kR) (fun l => l.length * 40 ≤ reachBytes ∧ ∀ y ∈ l, okR y) 23 := opensW_slice Try.underlying23 (by kernel_rfl) b1 fun f1 e1 => opensR f1
  refine fieldsW_cons (off' := 1) (Ok := fun x : List (SS α) => x.length * 32 ≤ reachBytes ∧ ∀ y ∈ x, okS ok y) (Ok' := fun x : List SR => (x.length * 40 ≤ reachBytes ∧ ∀ y ∈ x, okR y)) ?_ ?_ ?_ ?_ ?_
  · exact rfl
  · exact c0
  · exact g0
  · exact rfl
  refine fieldsW_last ?_ ?_ ?_
  · exact rfl
  · exact c1
  · exact g1
end
theorem opensN : ∀ n fuel, fuel ≤ 6 * n → OpensW fuel Try.prog (kN n) (okN n) 25
  | 0, fuel, h => by
    obtain rfl : fuel = 0 := by omega
    exact opensW_zero
  | n + 1, fuel, h => opensT (kN_sz n) fuel fun f e => opensN n f (by omega)
end Go.Proofs.Ytbpnfpckoapdbaa.Tr
