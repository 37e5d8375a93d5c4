/- Contracts of functions of the program, or a row of the seat, proved out of them. No condition beyond those that stand in each statement. -/
import Derived.Test.YtiijiofhofkhkaaS19gW
namespace Go.Proofs.S19
open Go Go.SE
set_option maxRecDepth 100000
set_option maxHeartbeats 4000000
attribute [local irreducible] specI

theorem putK_byte {s : Sh} : ∀ k, Bytes (putK s k)
  | 0 => by
    intro x hx
    have : x ∈ putHd s := hx
    simp only [putHd, be6, be1, List.cons_append, List.nil_append, List.mem_cons, List.not_mem_nil, or_false] at this
    omega
  | k + 1 => by
    intro x hx
    rcases List.mem_append.1 (show x ∈ putK s k ++ putRow (rAt s.rows k) from hx) with h | h
    · exact putK_byte k x h
    · simp only [putRow, be6, be4, be1, List.cons_append, List.nil_append, List.mem_cons, List.not_mem_nil, or_false] at h
      omega
theorem putSh_byte (s : Sh) : Bytes (putSh s) := by
  unfold putSh
  split
  · exact putK_byte _
  · intro x hx; cases hx

theorem putSh_len (s : Sh) (h : okSh s) : (putSh s).length = 13 + 13 * s.rows.length := by
  unfold putSh; rw [if_pos h]; exact putK_len s _
theorem putSh_le (s : Sh) : (putSh s).length ≤ 1000 := by
  by_cases h : okSh s
  · rw [putSh_len s h]; have := h.1.2.2; omega
  · unfold putSh; rw [if_neg h]; simp
theorem ofSh_le (t : Tab) : (ofSh t).rows.length ≤ 16 := by
  unfold ofSh
  split
  · exact rowsK_len (fun _ => true) t 16
  · simp [zeroSh]
theorem dlSh_le (a b : Tab) : (dlSh a b).rows.length ≤ 16 := by
  unfold dlSh
  split
  · exact rowsK_len (fun i => !eqEnt (a.at i) (b.at i)) b 16
  · simp [zeroSh]
theorem tkSh_le {b : List Int} (hb : Bytes b) : (tkSh b).rows.length ≤ 255 := by
  unfold tkSh
  split
  · show (tkRows b (tkN b)).length ≤ 255
    rw [tkRows_len]
    have := byte_bd hb 12
    unfold tkN; omega
  · simp [zeroSh]

