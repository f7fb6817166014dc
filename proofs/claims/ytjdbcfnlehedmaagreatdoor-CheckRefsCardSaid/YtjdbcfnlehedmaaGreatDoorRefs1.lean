/-
  CheckRefs: its rest, where the item is number 0.
-/
import Derived.Test.YtjdbcfnlehedmaaGreatDoorRefs0
namespace Go.Proofs.YtjdbcfnlehedmaaGreatDoor.Av
set_option linter.unusedVariables false
set_option linter.unusedSimpArgs false
set_option maxRecDepth 1000000
open Go
theorem refs_0_0_107 (b : Bool) : Good b 0 0 [107] := by
  intro y0 y1 y2 y26 y27 y29 y30 y33 y34 y35
  cases b <;> kernel_rfl
theorem refs_0_0_120 (b : Bool) : Good b 0 0 [120] := by
  intro y0 y1 y2 y26 y27 y29 y30 y33 y34 y35
  cases b <;> kernel_rfl
theorem refs_0_0_121 (b : Bool) : Good b 0 0 [121] := by
  intro y0 y1 y2 y26 y27 y29 y30 y33 y34 y35
  cases b <;> kernel_rfl
theorem refs_0_0_122 (b : Bool) : Good b 0 0 [122] := by
  intro y0 y1 y2 y26 y27 y29 y30 y33 y34 y35
  cases b <;> kernel_rfl
theorem refs_0_1_107 (b : Bool) : Good b 0 1 [107] := by
  intro y0 y1 y2 y26 y27 y29 y30 y33 y34 y35
  cases b <;> kernel_rfl
theorem refs_0_1_120 (b : Bool) : Good b 0 1 [120] := by
  intro y0 y1 y2 y26 y27 y29 y30 y33 y34 y35
  cases b <;> kernel_rfl
theorem refs_0_1_121 (b : Bool) : Good b 0 1 [121] := by
  intro y0 y1 y2 y26 y27 y29 y30 y33 y34 y35
  cases b <;> kernel_rfl
theorem refs_0_1_122 (b : Bool) : Good b 0 1 [122] := by
  intro y0 y1 y2 y26 y27 y29 y30 y33 y34 y35
  cases b <;> kernel_rfl
theorem refs_0_2_107 (b : Bool) : Good b 0 2 [107] := by
  intro y0 y1 y2 y26 y27 y29 y30 y33 y34 y35
  cases b <;> kernel_rfl
theorem refs_0_2_120 (b : Bool) : Good b 0 2 [120] := by
  intro y0 y1 y2 y26 y27 y29 y30 y33 y34 y35
  cases b <;> kernel_rfl
theorem refs_0_2_121 (b : Bool) : Good b 0 2 [121] := by
  intro y0 y1 y2 y26 y27 y29 y30 y33 y34 y35
  cases b <;> kernel_rfl
theorem refs_0_2_122 (b : Bool) : Good b 0 2 [122] := by
  intro y0 y1 y2 y26 y27 y29 y30 y33 y34 y35
  cases b <;> kernel_rfl
theorem refs_0_3_107 (b : Bool) : Good b 0 3 [107] := by
  intro y0 y1 y2 y26 y27 y29 y30 y33 y34 y35
  cases b <;> kernel_rfl
theorem refs_0_3_120 (b : Bool) : Good b 0 3 [120] := by
  intro y0 y1 y2 y26 y27 y29 y30 y33 y34 y35
  cases b <;> kernel_rfl
theorem refs_0_3_121 (b : Bool) : Good b 0 3 [121] := by
  intro y0 y1 y2 y26 y27 y29 y30 y33 y34 y35
  cases b <;> kernel_rfl
theorem refs_0_3_122 (b : Bool) : Good b 0 3 [122] := by
  intro y0 y1 y2 y26 y27 y29 y30 y33 y34 y35
  cases b <;> kernel_rfl
theorem refs_0_4_107 (b : Bool) : Good b 0 4 [107] := by
  intro y0 y1 y2 y26 y27 y29 y30 y33 y34 y35
  cases b <;> kernel_rfl
theorem refs_0_4_120 (b : Bool) : Good b 0 4 [120] := by
  intro y0 y1 y2 y26 y27 y29 y30 y33 y34 y35
  cases b <;> kernel_rfl
theorem refs_0_4_121 (b : Bool) : Good b 0 4 [121] := by
  intro y0 y1 y2 y26 y27 y29 y30 y33 y34 y35
  cases b <;> kernel_rfl
theorem refs_0_4_122 (b : Bool) : Good b 0 4 [122] := by
  intro y0 y1 y2 y26 y27 y29 y30 y33 y34 y35
  cases b <;> kernel_rfl
theorem refs_0 {r2 : Nat} (h : r2 < 5) {f : List UInt8} (hf : f = [107] ∨ f = [120] ∨ f = [121] ∨ f = [122]) (b : Bool) : Good b 0 r2 f := by
  match r2, h with
  | 0, _ => exact hf.elim (fun e => e ▸ refs_0_0_107 b) fun hf => hf.elim (fun e => e ▸ refs_0_0_120 b) fun hf => hf.elim (fun e => e ▸ refs_0_0_121 b) fun e => e ▸ refs_0_0_122 b
  | 1, _ => exact hf.elim (fun e => e ▸ refs_0_1_107 b) fun hf => hf.elim (fun e => e ▸ refs_0_1_120 b) fun hf => hf.elim (fun e => e ▸ refs_0_1_121 b) fun e => e ▸ refs_0_1_122 b
  | 2, _ => exact hf.elim (fun e => e ▸ refs_0_2_107 b) fun hf => hf.elim (fun e => e ▸ refs_0_2_120 b) fun hf => hf.elim (fun e => e ▸ refs_0_2_121 b) fun e => e ▸ refs_0_2_122 b
  | 3, _ => exact hf.elim (fun e => e ▸ refs_0_3_107 b) fun hf => hf.elim (fun e => e ▸ refs_0_3_120 b) fun hf => hf.elim (fun e => e ▸ refs_0_3_121 b) fun e => e ▸ refs_0_3_122 b
  | 4, _ => exact hf.elim (fun e => e ▸ refs_0_4_107 b) fun hf => hf.elim (fun e => e ▸ refs_0_4_120 b) fun hf => hf.elim (fun e => e ▸ refs_0_4_121 b) fun e => e ▸ refs_0_4_122 b
end Go.Proofs.YtjdbcfnlehedmaaGreatDoor.Av
