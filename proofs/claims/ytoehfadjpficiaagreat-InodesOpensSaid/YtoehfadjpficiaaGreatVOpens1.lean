/- The statement InodesOpens evaluated: what is asked. -/
import Derived.Test.YtoehfadjpficiaaGreatVOpens0
namespace Go.Proofs.YtoehfadjpficiaaGreat.inodesOpens
open Go Go.RowKit Go.Proofs.YtoehfadjpficiaaGreat.Ev
set_option maxRecDepth 100000
def rN : Nat → Bool
  | 1 => true
  | _ => false
def rA : Nat → Bool
  | 0 => false
  | _ => true
def hiLo : Nat → Int
  | 0 => 1
  | 1 => 5
  | 2 => 17
  | 3 => 65
  | 4 => 257
  | _ => 1025
def hiHi : Nat → Int
  | 0 => 4
  | 1 => 16
  | 2 => 64
  | 3 => 256
  | 4 => 1024
  | _ => 4096
def hOf : Nat → Int
  | 0 => 0
  | 1 => 1
  | 2 => 2
  | 3 => 3
  | 4 => 4
  | _ => 5
def sumO (b : Bool) : Ev.Call := sumOr (sumTrue [15]) (sumNone b)
def oArgs (h hi : SV) : List EV := [.a (.agg (h :: vars33)), .a (.s hi)]
noncomputable def runO (ρ : Nat → Value) (ht : Nat) (h lo hi l1 l2 : Int) (dv : Bool) (r : Nat) (h0 hv : SV) : Bool :=
  isTrue (evCall (ctx (kO ht h lo hi l1 l2 (rA r) dv) ρ) funT.get (sumO (rN r)) 100000 1000 3 (oArgs h0 hv) .nil 0)
end Go.Proofs.YtoehfadjpficiaaGreat.inodesOpens
