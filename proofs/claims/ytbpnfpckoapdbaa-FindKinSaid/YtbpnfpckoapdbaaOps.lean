/- What comes in at the program's own types reads as their kinds say, with its bounds (written by wip/pr.py); no conditions. -/
import Derived.Test.YtbpnfpckoapdbaaProg
import Derived.KernelRfl
import Derived.Test.YtbpnfpckoapdbaaKD
import Derived.Test.YtbpnfpckoapdbaaOpenW
namespace Go.Proofs.Ytbpnfpckoapdbaa.Ops
open Go.RowKit Go.Proofs.YtbpnfpckoapdbaaW.PrintWords Go.Proofs.Ytbpnfpckoapdbaa.KD Go.Proofs.Ytbpnfpckoapdbaa.Open
set_option linter.unusedVariables false
set_option maxHeartbeats 1000000
def ok8 (x : S8) : Prop := (Lit.int .i64 x.f0).wf = true ∧ (Lit.int .i64 x.f1).wf = true ∧ True ∧ (Lit.int .u8 x.f3).wf = true
theorem opens8 (fuel : Nat) : OpensW fuel Try.prog k8 ok8 8 := by
  have c0 : Try.prog.cellsOf 2 = (Kd.int .i64).sz := by kernel_rfl
  have c1 : Try.prog.cellsOf 3 = (Kd.int .i64).sz := by kernel_rfl
  have c2 : Try.prog.cellsOf 4 = Kd.bool.sz := by kernel_rfl
  have c3 : Try.prog.cellsOf 6 = (Kd.int .u8).sz := by kernel_rfl
  refine (opensW_struct (P := Try.prog) (t := 8) (fuel := fuel) (d := (Kd.pair (Kd.int .i64) (Kd.pair (Kd.int .i64) (Kd.pair Kd.bool ((Kd.int .u8)))))) (Ok := fun x_ : Int × Int × Bool × Int => (Lit.int .i64 (x_.1)).wf = true ∧ (Lit.int .i64 (x_.2.1)).wf = true ∧ True ∧ (Lit.int .u8 (x_.2.2.2)).wf = true) (mk := fun y => (⟨y.1, y.2.1, y.2.2.1, y.2.2.2⟩ : S8)) (proj := fun x => (x.f0, x.f1, x.f2, x.f3)) (fun _ => rfl) Try.underlying8 (by kernel_rfl) fun f_ e_ => ?_)
  refine fieldsW_cons (off' := 1) (Ok := fun x_ : Int => (Lit.int .i64 x_).wf = true) (Ok' := fun x_ : Int × Bool × Int => (Lit.int .i64 (x_.1)).wf = true ∧ True ∧ (Lit.int .u8 (x_.2.2)).wf = true) ?_ ?_ ?_ ?_ ?_
  · exact rfl
  · exact c0
  · exact ((opens_int Try.underlying2).toW _)
  · exact rfl
  refine fieldsW_cons (off' := 2) (Ok := fun x_ : Int => (Lit.int .i64 x_).wf = true) (Ok' := fun x_ : Bool × Int => True ∧ (Lit.int .u8 (x_.2)).wf = true) ?_ ?_ ?_ ?_ ?_
  · exact rfl
  · exact c1
  · exact ((opens_int Try.underlying3).toW _)
  · exact rfl
  refine fieldsW_cons (off' := 3) (Ok := fun x_ : Bool => True) (Ok' := fun x_ : Int => (Lit.int .u8 x_).wf = true) ?_ ?_ ?_ ?_ ?_
  · exact rfl
  · exact c2
  · exact ((opens_bool Try.underlying4).toW _)
  · exact rfl
  refine fieldsW_last ?_ ?_ ?_
  · exact rfl
  · exact c3
  · exact ((opens_int Try.underlying6).toW _)

def ok14 (x : S14) : Prop := x.f0.size ≤ reachBytes ∧ (Lit.int .u64 x.f1).wf = true
theorem opens14 (fuel : Nat) : OpensW fuel Try.prog k14 ok14 14 := by
  have c0 : Try.prog.cellsOf 9 = Kd.string.sz := by kernel_rfl
  have c1 : Try.prog.cellsOf 12 = (Kd.int .u64).sz := by kernel_rfl
  refine (opensW_struct (P := Try.prog) (t := 14) (fuel := fuel) (d := (Kd.pair Kd.string ((Kd.int .u64)))) (Ok := fun x_ : ByteArray × Int => (x_.1).size ≤ reachBytes ∧ (Lit.int .u64 (x_.2)).wf = true) (mk := fun y => (⟨y.1, y.2⟩ : S14)) (proj := fun x => (x.f0, x.f1)) (fun _ => rfl) Try.underlying14 (by kernel_rfl) fun f_ e_ => ?_)
  refine fieldsW_cons (off' := 1) (Ok := fun x_ : ByteArray => x_.size ≤ reachBytes) (Ok' := fun x_ : Int => (Lit.int .u64 x_).wf = true) ?_ ?_ ?_ ?_ ?_
  · exact rfl
  · exact c0
  · exact (opensW_string Try.underlying9)
  · exact rfl
  refine fieldsW_last ?_ ?_ ?_
  · exact rfl
  · exact c1
  · exact ((opens_int Try.underlying12).toW _)

def ok88 (x : S88) : Prop := x.f0.size ≤ reachBytes ∧ (Lit.int .i64 x.f1).wf = true
theorem opens88 (fuel : Nat) : OpensW fuel Try.prog k88 ok88 88 := by
  have c0 : Try.prog.cellsOf 9 = Kd.string.sz := by kernel_rfl
  have c1 : Try.prog.cellsOf 3 = (Kd.int .i64).sz := by kernel_rfl
  refine (opensW_struct (P := Try.prog) (t := 88) (fuel := fuel) (d := (Kd.pair Kd.string ((Kd.int .i64)))) (Ok := fun x_ : ByteArray × Int => (x_.1).size ≤ reachBytes ∧ (Lit.int .i64 (x_.2)).wf = true) (mk := fun y => (⟨y.1, y.2⟩ : S88)) (proj := fun x => (x.f0, x.f1)) (fun _ => rfl) Try.underlying88 (by kernel_rfl) fun f_ e_ => ?_)
  refine fieldsW_cons (off' := 1) (Ok := fun x_ : ByteArray => x_.size ≤ reachBytes) (Ok' := fun x_ : Int => (Lit.int .i64 x_).wf = true) ?_ ?_ ?_ ?_ ?_
  · exact rfl
  · exact c0
  · exact (opensW_string Try.underlying9)
  · exact rfl
  refine fieldsW_last ?_ ?_ ?_
  · exact rfl
  · exact c1
  · exact ((opens_int Try.underlying3).toW _)

def ok86 (x : S86) : Prop := x.f0.size ≤ reachBytes ∧ (x.f1.length * 24 ≤ reachBytes ∧ ∀ y_ ∈ x.f1, ok88 y_)
theorem opens86 (fuel : Nat) : OpensW fuel Try.prog k86 ok86 86 := by
  have c0 : Try.prog.cellsOf 9 = Kd.string.sz := by kernel_rfl
  have c1 : Try.prog.cellsOf 84 = (Kd.slice 88 k88).sz := by kernel_rfl
  refine (opensW_struct (P := Try.prog) (t := 86) (fuel := fuel) (d := (Kd.pair Kd.string ((Kd.slice 88 k88)))) (Ok := fun x_ : ByteArray × (List S88) => (x_.1).size ≤ reachBytes ∧ ((x_.2).length * 24 ≤ reachBytes ∧ ∀ y_ ∈ (x_.2), ok88 y_)) (mk := fun y => (⟨y.1, y.2⟩ : S86)) (proj := fun x => (x.f0, x.f1)) (fun _ => rfl) Try.underlying86 (by kernel_rfl) fun f_ e_ => ?_)
  refine fieldsW_cons (off' := 1) (Ok := fun x_ : ByteArray => x_.size ≤ reachBytes) (Ok' := fun x_ : (List S88) => (x_.length * 24 ≤ reachBytes ∧ ∀ y_ ∈ x_, ok88 y_)) ?_ ?_ ?_ ?_ ?_
  · exact rfl
  · exact c0
  · exact (opensW_string Try.underlying9)
  · exact rfl
  refine fieldsW_last ?_ ?_ ?_
  · exact rfl
  · exact c1
  · exact (opensW_slice (B := 24) Try.underlying84 (by kernel_rfl) (by kernel_rfl) (fun _ _ => (opens88 _)))

def ok50 (x : S50) : Prop := x.f0.size ≤ reachBytes ∧ (Lit.int .i64 x.f1).wf = true ∧ (Lit.int .i64 x.f2).wf = true ∧ x.f3.size ≤ reachBytes ∧ True ∧ True ∧ x.f6.size ≤ reachBytes
theorem opens50 (fuel : Nat) : OpensW fuel Try.prog k50 ok50 50 := by
  have c0 : Try.prog.cellsOf 9 = Kd.string.sz := by kernel_rfl
  have c1 : Try.prog.cellsOf 3 = (Kd.int .i64).sz := by kernel_rfl
  have c2 : Try.prog.cellsOf 3 = (Kd.int .i64).sz := by kernel_rfl
  have c3 : Try.prog.cellsOf 9 = Kd.string.sz := by kernel_rfl
  have c4 : Try.prog.cellsOf 4 = Kd.bool.sz := by kernel_rfl
  have c5 : Try.prog.cellsOf 4 = Kd.bool.sz := by kernel_rfl
  have c6 : Try.prog.cellsOf 9 = Kd.string.sz := by kernel_rfl
  refine (opensW_struct (P := Try.prog) (t := 50) (fuel := fuel) (d := (Kd.pair Kd.string (Kd.pair (Kd.int .i64) (Kd.pair (Kd.int .i64) (Kd.pair Kd.string (Kd.pair Kd.bool (Kd.pair Kd.bool (Kd.string)))))))) (Ok := fun x_ : ByteArray × Int × Int × ByteArray × Bool × Bool × ByteArray => (x_.1).size ≤ reachBytes ∧ (Lit.int .i64 (x_.2.1)).wf = true ∧ (Lit.int .i64 (x_.2.2.1)).wf = true ∧ (x_.2.2.2.1).size ≤ reachBytes ∧ True ∧ True ∧ (x_.2.2.2.2.2.2).size ≤ reachBytes) (mk := fun y => (⟨y.1, y.2.1, y.2.2.1, y.2.2.2.1, y.2.2.2.2.1, y.2.2.2.2.2.1, y.2.2.2.2.2.2⟩ : S50)) (proj := fun x => (x.f0, x.f1, x.f2, x.f3, x.f4, x.f5, x.f6)) (fun _ => rfl) Try.underlying50 (by kernel_rfl) fun f_ e_ => ?_)
  refine fieldsW_cons (off' := 1) (Ok := fun x_ : ByteArray => x_.size ≤ reachBytes) (Ok' := fun x_ : Int × Int × ByteArray × Bool × Bool × ByteArray => (Lit.int .i64 (x_.1)).wf = true ∧ (Lit.int .i64 (x_.2.1)).wf = true ∧ (x_.2.2.1).size ≤ reachBytes ∧ True ∧ True ∧ (x_.2.2.2.2.2).size ≤ reachBytes) ?_ ?_ ?_ ?_ ?_
  · exact rfl
  · exact c0
  · exact (opensW_string Try.underlying9)
  · exact rfl
  refine fieldsW_cons (off' := 2) (Ok := fun x_ : Int => (Lit.int .i64 x_).wf = true) (Ok' := fun x_ : Int × ByteArray × Bool × Bool × ByteArray => (Lit.int .i64 (x_.1)).wf = true ∧ (x_.2.1).size ≤ reachBytes ∧ True ∧ True ∧ (x_.2.2.2.2).size ≤ reachBytes) ?_ ?_ ?_ ?_ ?_
  · exact rfl
  · exact c1
  · exact ((opens_int Try.underlying3).toW _)
  · exact rfl
  refine fieldsW_cons (off' := 3) (Ok := fun x_ : Int => (Lit.int .i64 x_).wf = true) (Ok' := fun x_ : ByteArray × Bool × Bool × ByteArray => (x_.1).size ≤ reachBytes ∧ True ∧ True ∧ (x_.2.2.2).size ≤ reachBytes) ?_ ?_ ?_ ?_ ?_
  · exact rfl
  · exact c2
  · exact ((opens_int Try.underlying3).toW _)
  · exact rfl
  refine fieldsW_cons (off' := 4) (Ok := fun x_ : ByteArray => x_.size ≤ reachBytes) (Ok' := fun x_ : Bool × Bool × ByteArray => True ∧ True ∧ (x_.2.2).size ≤ reachBytes) ?_ ?_ ?_ ?_ ?_
  · exact rfl
  · exact c3
  · exact (opensW_string Try.underlying9)
  · exact rfl
  refine fieldsW_cons (off' := 5) (Ok := fun x_ : Bool => True) (Ok' := fun x_ : Bool × ByteArray => True ∧ (x_.2).size ≤ reachBytes) ?_ ?_ ?_ ?_ ?_
  · exact rfl
  · exact c4
  · exact ((opens_bool Try.underlying4).toW _)
  · exact rfl
  refine fieldsW_cons (off' := 6) (Ok := fun x_ : Bool => True) (Ok' := fun x_ : ByteArray => x_.size ≤ reachBytes) ?_ ?_ ?_ ?_ ?_
  · exact rfl
  · exact c5
  · exact ((opens_bool Try.underlying4).toW _)
  · exact rfl
  refine fieldsW_last ?_ ?_ ?_
  · exact rfl
  · exact c6
  · exact (opensW_string Try.underlying9)

def ok47 (x : S47) : Prop := x.f0.size ≤ reachBytes ∧ (x.f1.length * 72 ≤ reachBytes ∧ ∀ y_ ∈ x.f1, ok50 y_) ∧ (x.f2.length * 8 ≤ reachBytes ∧ ∀ y_ ∈ x.f2, (Lit.int .i64 y_).wf = true)
theorem opens47 (fuel : Nat) : OpensW fuel Try.prog k47 ok47 47 := by
  have c0 : Try.prog.cellsOf 9 = Kd.string.sz := by kernel_rfl
  have c1 : Try.prog.cellsOf 44 = (Kd.slice 50 k50).sz := by kernel_rfl
  have c2 : Try.prog.cellsOf 45 = (Kd.slice 3 (Kd.int .i64)).sz := by kernel_rfl
  refine (opensW_struct (P := Try.prog) (t := 47) (fuel := fuel) (d := (Kd.pair Kd.string (Kd.pair (Kd.slice 50 k50) ((Kd.slice 3 (Kd.int .i64)))))) (Ok := fun x_ : ByteArray × (List S50) × (List Int) => (x_.1).size ≤ reachBytes ∧ ((x_.2.1).length * 72 ≤ reachBytes ∧ ∀ y_ ∈ (x_.2.1), ok50 y_) ∧ ((x_.2.2).length * 8 ≤ reachBytes ∧ ∀ y_ ∈ (x_.2.2), (Lit.int .i64 y_).wf = true)) (mk := fun y => (⟨y.1, y.2.1, y.2.2⟩ : S47)) (proj := fun x => (x.f0, x.f1, x.f2)) (fun _ => rfl) Try.underlying47 (by kernel_rfl) fun f_ e_ => ?_)
  refine fieldsW_cons (off' := 1) (Ok := fun x_ : ByteArray => x_.size ≤ reachBytes) (Ok' := fun x_ : (List S50) × (List Int) => ((x_.1).length * 72 ≤ reachBytes ∧ ∀ y_ ∈ (x_.1), ok50 y_) ∧ ((x_.2).length * 8 ≤ reachBytes ∧ ∀ y_ ∈ (x_.2), (Lit.int .i64 y_).wf = true)) ?_ ?_ ?_ ?_ ?_
  · exact rfl
  · exact c0
  · exact (opensW_string Try.underlying9)
  · exact rfl
  refine fieldsW_cons (off' := 2) (Ok := fun x_ : List S50 => (x_.length * 72 ≤ reachBytes ∧ ∀ y_ ∈ x_, ok50 y_)) (Ok' := fun x_ : (List Int) => (x_.length * 8 ≤ reachBytes ∧ ∀ y_ ∈ x_, (Lit.int .i64 y_).wf = true)) ?_ ?_ ?_ ?_ ?_
  · exact rfl
  · exact c1
  · exact (opensW_slice (B := 72) Try.underlying44 (by kernel_rfl) (by kernel_rfl) (fun _ _ => (opens50 _)))
  · exact rfl
  refine fieldsW_last ?_ ?_ ?_
  · exact rfl
  · exact c2
  · exact (opensW_slice (B := 8) Try.underlying45 (by kernel_rfl) (by kernel_rfl) (fun _ _ => ((opens_int Try.underlying3).toW _)))

def ok35 (x : S35) : Prop := (x.f0.length * 40 ≤ reachBytes ∧ ∀ y_ ∈ x.f0, ok86 y_) ∧ (x.f1.length * 64 ≤ reachBytes ∧ ∀ y_ ∈ x.f1, ok47 y_)
theorem opens35 (fuel : Nat) : OpensW fuel Try.prog k35 ok35 35 := by
  have c0 : Try.prog.cellsOf 32 = (Kd.slice 86 k86).sz := by kernel_rfl
  have c1 : Try.prog.cellsOf 33 = (Kd.slice 47 k47).sz := by kernel_rfl
  refine (opensW_struct (P := Try.prog) (t := 35) (fuel := fuel) (d := (Kd.pair (Kd.slice 86 k86) ((Kd.slice 47 k47)))) (Ok := fun x_ : (List S86) × (List S47) => ((x_.1).length * 40 ≤ reachBytes ∧ ∀ y_ ∈ (x_.1), ok86 y_) ∧ ((x_.2).length * 64 ≤ reachBytes ∧ ∀ y_ ∈ (x_.2), ok47 y_)) (mk := fun y => (⟨y.1, y.2⟩ : S35)) (proj := fun x => (x.f0, x.f1)) (fun _ => rfl) Try.underlying35 (by kernel_rfl) fun f_ e_ => ?_)
  refine fieldsW_cons (off' := 1) (Ok := fun x_ : List S86 => (x_.length * 40 ≤ reachBytes ∧ ∀ y_ ∈ x_, ok86 y_)) (Ok' := fun x_ : (List S47) => (x_.length * 64 ≤ reachBytes ∧ ∀ y_ ∈ x_, ok47 y_)) ?_ ?_ ?_ ?_ ?_
  · exact rfl
  · exact c0
  · exact (opensW_slice (B := 40) Try.underlying32 (by kernel_rfl) (by kernel_rfl) (fun _ _ => (opens86 _)))
  · exact rfl
  refine fieldsW_last ?_ ?_ ?_
  · exact rfl
  · exact c1
  · exact (opensW_slice (B := 64) Try.underlying33 (by kernel_rfl) (by kernel_rfl) (fun _ _ => (opens47 _)))

def ok73 (x : S73) : Prop := (Lit.int .i64 x.f0).wf = true ∧ (Lit.int .i64 x.f1).wf = true ∧ (Lit.int .u64 x.f2).wf = true ∧ x.f3.size ≤ reachBytes
theorem opens73 (fuel : Nat) : OpensW fuel Try.prog k73 ok73 73 := by
  have c0 : Try.prog.cellsOf 3 = (Kd.int .i64).sz := by kernel_rfl
  have c1 : Try.prog.cellsOf 3 = (Kd.int .i64).sz := by kernel_rfl
  have c2 : Try.prog.cellsOf 67 = (Kd.int .u64).sz := by kernel_rfl
  have c3 : Try.prog.cellsOf 9 = Kd.string.sz := by kernel_rfl
  refine (opensW_struct (P := Try.prog) (t := 73) (fuel := fuel) (d := (Kd.pair (Kd.int .i64) (Kd.pair (Kd.int .i64) (Kd.pair (Kd.int .u64) (Kd.string))))) (Ok := fun x_ : Int × Int × Int × ByteArray => (Lit.int .i64 (x_.1)).wf = true ∧ (Lit.int .i64 (x_.2.1)).wf = true ∧ (Lit.int .u64 (x_.2.2.1)).wf = true ∧ (x_.2.2.2).size ≤ reachBytes) (mk := fun y => (⟨y.1, y.2.1, y.2.2.1, y.2.2.2⟩ : S73)) (proj := fun x => (x.f0, x.f1, x.f2, x.f3)) (fun _ => rfl) Try.underlying73 (by kernel_rfl) fun f_ e_ => ?_)
  refine fieldsW_cons (off' := 1) (Ok := fun x_ : Int => (Lit.int .i64 x_).wf = true) (Ok' := fun x_ : Int × Int × ByteArray => (Lit.int .i64 (x_.1)).wf = true ∧ (Lit.int .u64 (x_.2.1)).wf = true ∧ (x_.2.2).size ≤ reachBytes) ?_ ?_ ?_ ?_ ?_
  · exact rfl
  · exact c0
  · exact ((opens_int Try.underlying3).toW _)
  · exact rfl
  refine fieldsW_cons (off' := 2) (Ok := fun x_ : Int => (Lit.int .i64 x_).wf = true) (Ok' := fun x_ : Int × ByteArray => (Lit.int .u64 (x_.1)).wf = true ∧ (x_.2).size ≤ reachBytes) ?_ ?_ ?_ ?_ ?_
  · exact rfl
  · exact c1
  · exact ((opens_int Try.underlying3).toW _)
  · exact rfl
  refine fieldsW_cons (off' := 3) (Ok := fun x_ : Int => (Lit.int .u64 x_).wf = true) (Ok' := fun x_ : ByteArray => x_.size ≤ reachBytes) ?_ ?_ ?_ ?_ ?_
  · exact rfl
  · exact c2
  · exact ((opens_int Try.underlying67).toW _)
  · exact rfl
  refine fieldsW_last ?_ ?_ ?_
  · exact rfl
  · exact c3
  · exact (opensW_string Try.underlying9)

end Go.Proofs.Ytbpnfpckoapdbaa.Ops
