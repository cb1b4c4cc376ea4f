/- Facts put out of sight; further results. -/
import Derived.Test.YtdmeohgojdfmoaaGreatDoorPvl
set_option linter.unusedSimpArgs false
set_option linter.unusedVariables false
namespace Go.Proofs.YtdmeohgojdfmoaaGreatDoor
open Go Go.RowKit
/-- A fact that automation is not to look at. -/
structure Hid (p : Prop) : Prop where
  out : p
section
variable {P : Program} {F : Fm} {H : List OB}
/-- A struct result that lies in a variable, and a closed one. -/
theorem aret_a2 {fn : Func} {nl q r k : Nat} {ty : TypeId} {Qr : AV → List OB → Prop} {v z2 : AV} {v2 : CV} {cs cs' cs'' : List AV} (m : List (Option Nat)) (H' : List OB) (hr : fn.results = #[.cell q ty, .tmp r]) (hk : ldk P ty = some (some k)) (h : F.lookup q = some v) (hc : Cells H v cs) (hn : k ≤ cs.length) (he : cs.take k = cs') (h2 : F.lookup r = some z2) (hz2 : z2 = .c v2)
    (hm : (m.filterMap id).Nodup) (hl : ∀ i, i < nl → m[i]? = some (some i)) (hcv : ∀ g, CvL g m H true cs' cs'') (hH : ∀ g, CvH g m H true m H') (hq : Qr (.t [.a cs'', .c v2]) H') : ARet P fn nl Qr .ret F H := by
  subst hz2
  exact aret_of (us := [.a cs', .c v2]) m (fun _ => .t [.a cs'', .c v2]) (fun _ => H') (by rw [hr]; exact .cella h hk hc hn he (.tmp h2 .nil)) hm hl (fun g => .tL (.cons (.aL (hcv g)) (.cons (.c rfl) .nil))) hH (fun _ => hq)
/-- No result. -/
theorem aret_0 {fn : Func} {nl : Nat} {x : Exit} {Qr : AV → List OB → Prop} (m : List (Option Nat)) (H' : (AV → Value) → List OB) (hx : x = .ret ∨ x = .normal) (hr : fn.results = #[]) (hm : (m.filterMap id).Nodup) (hl : ∀ i, i < nl → m[i]? = some (some i)) (hH : ∀ g, CvH g m H true m (H' g)) (hq : ∀ g, Qr (.t []) (H' g)) : ARet P fn nl Qr x F H :=
  ⟨hx, [], by rw [hr]; exact .nil, m, fun _ => .t [], H', hm, hl, fun _ => .tL .nil, hH, hq⟩
end
end Go.Proofs.YtdmeohgojdfmoaaGreatDoor
