import Derived.Test.YtnfkpnfafekflaaRows
import Derived.JoinedOf
import Derived.KernelRfl
namespace Go.Proofs.Ytnfkpnfafekflaa.Hand
open Go
set_option maxRecDepth 100000
def ioL : List Char := ['h', 'a', 'r', 'n', 'e', 's', 's', ' ', '0', 'c', '6', '2', '0', '1', 'd', 'e', '0', 'e', 'd', '5', '2', 'd', '7', 'c', 'b', '7', 'b', '9', 'd', '4', '2', '4', '4', 'c', 'f', '2', '6', 'c', 'd', 'd', 'a', 'e', 'c', 'c', '3', '4', '7', 'c', '7', '5', 'd', '6', 'c', '2', 'a', '2', '8', '8', '4', 'e', 'd', 'a', '8', '8', '0', '1', '3', 'd', '4', 'd', '3', '1', ' ', 'c', 'u', 't', ' ', 'a', 't', ' ', 'w', 'h', 'a', 'r', 'f', 'i', 'n', 'g', 'e', 'r', '/', 'w', 'h', 'a', 'r', 'f', 'i', 'n', 'g', 'e', 'r', 'l', 'a', 'w', '1', '4', '.', 'N', 'o', 'd', 'e', 's', 'F', 'o', 'u', 'n', 'd', ' ', 'w', 'h', 'a', 'r', 'f', 'i', 'n', 'g', 'e', 'r', '/', 'w', 'h', 'a', 'r', 'f', 'i', 'n', 'g', 'e', 'r', 'l', 'a', 'w', '1', '4', '.', 'N', 'o', 'd', 'e', 's', 'S', 'p', 'o', 'i', 'l']
def ioR : List (List Char) := [['w', 'h', 'a', 'r', 'f', 'i', 'n', 'g', 'e', 'r', '/', 'w', 'h', 'a', 'r', 'f', 'i', 'n', 'g', 'e', 'r', 'l', 'a', 'w', '1', '4', '.', 'N', 'o', 'd', 'e', 's', 'F', 'o', 'u', 'n', 'd'], ['w', 'h', 'a', 'r', 'f', 'i', 'n', 'g', 'e', 'r', '/', 'w', 'h', 'a', 'r', 'f', 'i', 'n', 'g', 'e', 'r', 'l', 'a', 'w', '1', '4', '.', 'N', 'o', 'd', 'e', 's', 'S', 'p', 'o', 'i', 'l']]
theorem io_str : Try.prog.initOrder = String.ofList ioL := by kernel_rfl
theorem io_list : Try.prog.initOrder.toList = ioL := by rw [io_str]; exact String.toList_ofList
theorem io_main : behindMainWord (wordsSigns Try.prog.initOrder.toList) = "cut".toList :: "at".toList :: ioR := by rw [io_list]; kernel_rfl
theorem io_ll : Try.prog.laysLater = false := by kernel_rfl
theorem io_br : Try.prog.bearsReflect = false := by kernel_rfl
theorem io_dr : Try.prog.doorRows = [] := by kernel_rfl
theorem io_df : Try.prog.doorFits [] = true := by unfold Program.doorFits; rw [io_dr]; kernel_rfl
theorem io_sl : stripLifts liftWords ("cut".toList :: "at".toList :: ioR) = ([], "cut".toList :: "at".toList :: ioR) := by kernel_rfl
theorem io_hl : Try.prog.headLifts = [] := by
  unfold Program.headLifts; rw [io_main]; dsimp only; rw [io_sl]; kernel_rfl
theorem may_of {P : Program} {ws : List (List Char)} (h : behindMainWord (wordsSigns P.initOrder.toList) = "cut".toList :: ws) (l : P.laysLater = false) (b : P.bearsReflect = false) (d : P.doorFits [] = true) (s : stripLifts liftWords ("cut".toList :: ws) = ([], "cut".toList :: ws)) : P.mayEnter = true := by
  unfold Program.mayEnter; rw [h, l, b]; dsimp only; rw [s, d]; kernel_rfl
theorem make_of {P : Program} {ws : List (List Char)} (h : behindMainWord (wordsSigns P.initOrder.toList) = "cut".toList :: ws) : P.make = some .cut := by
  unfold Program.make; rw [h]; kernel_rfl
theorem io_may : Try.prog.mayEnter = true := may_of io_main io_ll io_br io_df io_sl
theorem io_lf : Try.prog.liftsFinal = false := by
  unfold Program.liftsFinal; rw [io_main, io_hl]; kernel_rfl
theorem io_make : Try.prog.make = some .cut := make_of io_main
end Go.Proofs.Ytnfkpnfafekflaa.Hand
