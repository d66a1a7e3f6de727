/- WalkOnce: for every input the law returns true, and each argument reads behind the call as it read before. -/
import Derived.Test.YtpnlbmeeihbjaaaZWC3
import Derived.Test.YtpnlbmeeihbjaaaZWC12
section
set_option linter.unusedVariables false
set_option linter.unusedSimpArgs false
namespace Go.Proofs.Ytpnlbmeeihbjaaa.P
open Go.RowKit Go.Proofs.YtpnlbmeeihbjaaaW.PrintWords Go.Proofs.YtpnlbmeeihbjaaaW.PrintLast Go.Proofs.YtpnlbmeeihbjaaaW.PrintMore
set_option linter.unusedVariables false
set_option linter.unusedSimpArgs false
theorem grown_refl (w : World) (r : Option Nat) : w.grownBy w r := ⟨rfl, rfl, rfl, Nat.le_refl _, fun _ _ _ => rfl⟩
theorem rev_calls (l : List Int) (v : Value) (base : Nat) (ok : Nat → Prop) (w : World) (hR : Kd.R (Kd.int .i64) 3 w base ok v l) (hl : l.length ≤ 1099511627776) :
    Calls Try.prog 75 #[v] w fun e w' => e = .returned (.tuple #[]) ∧ Kd.R (Kd.int .i64) 3 w' base ok v l.reverse ∧ w.grownBy w' v.ownBlock := by
  have hok := hR.1
  obtain ⟨hlen, h⟩ := Kd.own_of_R hR
  rcases h with ⟨rfl, hn⟩ | ⟨g, cap, cur, rfl, hg, hh, hnc, hcm, hcs, htk⟩
  · have e0 : l = [] := List.eq_nil_of_length_eq_zero hn
    subst e0
    refine (Try.slices_Reverse_int_empty none 0 w).mono ?_
    rintro e w' ⟨rfl, rfl⟩
    exact ⟨rfl, hR, grown_refl _ _⟩
  · refine (Try.slices_Reverse_int_cells g 0 l.length cap l w (Nat.le_refl _) (by omega) (fun j hj => ?_) (fun j hj => ?_)).mono ?_
    · have := (Kd.R_cell (0 : Int) hR (j : Int) (by omega) (by omega)).1
      rw [Int.toNat_natCast] at this
      rw [Nat.zero_add]
      simpa [rdOf] using this
    · have := (Kd.R_cell (0 : Int) hR (j : Int) (by omega) (by omega)).2
      rw [Int.toNat_natCast] at this
      rw [Nat.zero_add]
      exact this
    · rintro e w' ⟨rfl, q, rfl⟩
      rw [List.take_length]
      obtain ⟨cur', h3, h4, h5⟩ := setCells_row (g := g) (e := 3) (l.reverse.map (Value.int .i64)) 0 (w.drewN q) cur hh (by simp; omega)
      refine ⟨rfl, Kd.R_of_own (enc := Value.int .i64) (h1 := fun _ => rfl) ⟨by simp [encs], .inr ⟨g, cap, cur', by simp, hg, h3, by simpa using hnc, hcm, by omega, ?_⟩⟩ hok, ?_⟩
      · rw [h5]; simp [encs]
      · have hgr := setCells_grown (w.drewN q) g 0 (l.reverse.map (Value.int .i64))
        exact ⟨hgr.os, hgr.tape, hgr.output, hgr.size, hgr.block⟩
end Go.Proofs.Ytpnlbmeeihbjaaa.P
end
