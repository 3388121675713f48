/- Numbers are mixed alike. -/
import Derived.Test.YtaakmifjkobkgaaDoorGb
import Derived.Test.YtaakmifjkobkgaaDoorL0
namespace Go.Proofs.YtaakmifjkobkgaaDoor
open Go.Rf
def xs (x : Int) (k : Nat) : Int := IntKind.u64.wrap ↑(BitVec.ofInt 64 x ^^^ BitVec.ofInt 64 (x.fdiv (2 ^ k))).toNat
def ml (x c : Int) : Int := IntKind.u64.wrap (x * c)
def mixF (x : Int) : Int := xs (ml (xs (ml (xs x 30) 13787848793156543929) 27) 10723151780598845931) 31
def xr (x d : Int) : Int := IntKind.u64.wrap ↑(BitVec.ofInt 64 x ^^^ BitVec.ofInt 64 (IntKind.u64.wrap (x.tdiv d))).toNat
def mixR (x : Int) : Int := xr (ml (xr (ml (xr x 1073741824) 13787848793156543929) 134217728) 10723151780598845931) 2147483648
theorem mix_go (n : Nat) (x : Int) : f26 n x = some (mixF x) := by unfold mixF xs ml; exact f26_eq n x
theorem mix_ref (n : Nat) (x : Int) : f28 n x = some (mixR x) := by unfold mixR xr ml; exact f28_eq n x
theorem xs_u64 (x : Int) (k : Nat) : u64 (xs x k) := wU_u64 _
theorem ml_u64 (x c : Int) : u64 (ml x c) := wU_u64 _
theorem xs_xr {x : Int} (h : u64 x) (k : Nat) (d : Int) (e : d = 2 ^ k) (hd : 1 ≤ d) : xr x d = xs x k := by
  unfold xs xr
  rw [← e, IntWalk.u64_quo x d ⟨h.1, h.2, hd⟩, Int.fdiv_eq_ediv_of_nonneg _ (by omega)]
theorem mix_same {x : Int} (h : u64 x) : mixR x = mixF x := by
  unfold mixR mixF
  rw [xs_xr (ml_u64 _ _) 31 _ (by decide) (by decide), xs_xr (ml_u64 _ _) 27 _ (by decide) (by decide), xs_xr h 30 _ (by decide) (by decide)]
end Go.Proofs.YtaakmifjkobkgaaDoor
