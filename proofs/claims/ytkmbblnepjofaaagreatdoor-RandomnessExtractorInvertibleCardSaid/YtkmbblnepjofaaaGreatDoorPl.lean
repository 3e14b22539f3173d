/- Plain laws of chapter 19: sorting few words, distinct words. -/
import Derived.Test.YtkmbblnepjofaaaGreatDoorPk
set_option linter.unusedVariables false
namespace Pu
open Gw Gl Sp
end Pu

/- Plain laws of chapter 19: sums and products of polynomials. -/
set_option linter.unusedVariables false
namespace Pu
open Gw Gl Sp
section
variable {p:Nat} [NeZero p]
end
end Pu

/- Plain laws of chapter 19: interpolation, reconstruction. -/
set_option linter.unusedVariables false
namespace Pu
open Gw Gl Sp
section
variable {p:Nat} [NeZero p]
theorem B8 (hp:iq p) {a b:Nat} (ha:a < p) (hb:b < p) (h0:b≠0):∃ r,fx p a b=some r∧r < p∧o p r*o p b=o p a:=by
  unfold fx
  rw [yX hp hb h0,bS]
  simp only
  rw [nE hp ha (zx hp),bS]
  refine ⟨_,rfl,Nat.mod_lt _ hp.pos,?_⟩
  have h1:=hp.oinv (a:=b) (by rw [Nat.mod_eq_of_lt hb];exact h0)
  rw [rv,sH]
  have:o p a*o p (Cc p b (p - 2))*o p b=o p a*(o p (Cc p b (p - 2))*o p b):=by grind
  rw [this,h1];grind
end
end Pu
