/- P2: programs as texts. No program is named here. -/
import Derived.Test.YtpnapnmkjpolmaaDoorData
import Derived.Test.YtpnapnmkjpolmaaDoorCodeA
import Derived.Lib.ItoaMem
set_option linter.unusedSimpArgs false
set_option linter.unusedVariables false
namespace Go.Proofs.YtpnapnmkjpolmaaDoor
open Go.RowKit
def bstr (l : List UInt8) : ByteArray := ⟨l.toArray⟩
theorem bstr_mk (l : List UInt8) : (⟨l.toArray⟩ : ByteArray) = bstr l := rfl
theorem bstr_size (l : List UInt8) : (bstr l).size = l.length := by unfold bstr; simp [ByteArray.size]
theorem bstr_app (a b : List UInt8) : bstr a ++ bstr b = bstr (a ++ b) := by
  apply ByteArray.ext
  rw [ByteArray.data_append]
  unfold bstr
  simp
theorem bstr_toList (l : List UInt8) : (bstr l).toList = l := by
  unfold bstr
  simp
theorem bstr_data (l : List UInt8) : (bstr l).data.toList = l := by unfold bstr; simp
theorem bstr_inj {a b : List UInt8} (h : bstr a = bstr b) : a = b := by
  have := congrArg (fun x : ByteArray => x.data.toList) h
  simpa [bstr_data] using this
def wordsT : List (List UInt8) := [[], [115, 101, 116], [97, 100, 100], [115, 117, 98], [109, 117, 108], [100, 105, 118], [97, 110, 100], [111, 114], [120, 111, 114], [115, 104, 108], [115, 97, 114], [108, 116], [101, 113], [108, 111, 97, 100], [115, 116, 111, 114, 101], [106, 117, 109, 112], [105, 102], [99, 97, 108, 108], [104, 111, 115, 116], [114, 101, 116]]
def wordL (op : Int) : List UInt8 := wordsT.getD op.toNat []
/-- What a line has behind its word: d, a, b are registers, i is a number. -/
def formL (op : Int) : List UInt8 :=
  if op = 1 then [100, 105] else if op = 13 ∨ op = 18 then [100, 97] else if op = 14 then [97, 98] else if op = 15 then [105] else if op = 16 then [97, 105] else if op = 17 then [100, 105, 97, 98] else if op = 19 then [97] else [100, 97, 98]
def fieldZ (x : Ins) (c : UInt8) : Int := if c = 100 then x.dst else if c = 97 then x.a else if c = 98 then x.b else x.imm
def argS (x : Ins) (c : UInt8) : List UInt8 := [32] ++ (if c = 105 then [] else [114]) ++ Lib.itoa (fieldZ x c)
def lineB (x : Ins) : List UInt8 := wordL x.op ++ (formL x.op).flatMap (argS x)
def lineS (x : Ins) : List UInt8 := lineB x ++ [10]
def headS (f : Fun) : List UInt8 := [102, 117, 110, 99, 32] ++ Lib.itoa f.params ++ [32] ++ Lib.itoa f.regs ++ [10]
def funS (f : Fun) : List UInt8 := headS f ++ f.code.flatMap lineS
def showS (p : Prg) : List UInt8 := p.funcs.flatMap funS
noncomputable def showAns (p : Prg) : List UInt8 × Int := if prgFault p ≠ 0 then ([], prgFault p) else (showS p, 0)
theorem show_bad {p : Prg} (h : prgFault p ≠ 0) : showAns p = ([], prgFault p) := by unfold showAns; rw [if_pos h]
theorem show_ok {p : Prg} (h : prgFault p = 0) : showAns p = (showS p, 0) := by unfold showAns; rw [if_neg (by simpa using h)]
/-- The same line, as the document tells it. -/
def lineR (x : Ins) : List UInt8 := wordL x.op ++ (if setsZ x.op then [32, 114] ++ Lib.itoa x.dst else []) ++ (if x.op = 17 ∨ x.op = 1 then [32] ++ Lib.itoa x.imm else []) ++ (if readsAZ x.op then [32, 114] ++ Lib.itoa x.a else []) ++ (if readsBZ x.op then [32, 114] ++ Lib.itoa x.b else []) ++ (if x.op = 15 ∨ x.op = 16 then [32] ++ Lib.itoa x.imm else [])
end Go.Proofs.YtpnapnmkjpolmaaDoor
