/- Travel, plain: wider and narrower spans of faults and errors. -/
import Derived.Test.YtldodmfmibeoiaaDoorP6
namespace Go.Proofs.YtldodmfmibeoiaaDoor
open Go.RowKit
section
variable {r : Rnd} {off i most : Int} {s : Trp}
theorem wide_fault (h1 : r.most ≤ most) (h2 : most ≤ 100000) (h : (r.fault off i).e = 0) : ((r.wide most).fault off i).e = 0 ∧ ((r.wide most).fault off i).lo ≤ (r.fault off i).lo ∧ (r.fault off i).hi ≤ ((r.wide most).fault off i).hi :=
  wider (r := r) (most := most) (off := off) (idx := i) (many := r.nb) (k := 1 + i.toNat) (turn := true) (fault_k h) h1 h2 h
theorem wide_error (h1 : r.most ≤ most) (h2 : most ≤ 100000) (h : (r.error off i).e = 0) : ((r.wide most).error off i).e = 0 ∧ ((r.wide most).error off i).lo ≤ (r.error off i).lo ∧ (r.error off i).hi ≤ ((r.wide most).error off i).hi :=
  wider (r := r) (most := most) (off := off) (idx := i) (many := r.nm) (k := 7 + i.toNat) (turn := false) (error_k h) h1 h2 h
theorem rich_fault (he : (r.rich s).err off = 0) (ho : okT ((r.rich s).D off) = true) (h : (r.fault off i).e = 0) : ((r.rich s).fault off i).e = 0 ∧ (r.fault off i).lo ≤ ((r.rich s).fault off i).lo ∧ ((r.rich s).fault off i).hi ≤ (r.fault off i).hi :=
  Rnd.narrower (r := r.rich s) (r' := r) (off := off) (idx := i) (many := r.nb) (k := 1 + i.toNat) (turn := true) he (fault_k h) rich_sub ho h
theorem rich_error (he : (r.rich s).err off = 0) (ho : okT ((r.rich s).D off) = true) (h : (r.error off i).e = 0) : ((r.rich s).error off i).e = 0 ∧ (r.error off i).lo ≤ ((r.rich s).error off i).lo ∧ ((r.rich s).error off i).hi ≤ (r.error off i).hi :=
  Rnd.narrower (r := r.rich s) (r' := r) (off := off) (idx := i) (many := r.nm) (k := 7 + i.toNat) (turn := false) he (error_k h) rich_sub ho h
end
end Go.Proofs.YtldodmfmibeoiaaDoor
