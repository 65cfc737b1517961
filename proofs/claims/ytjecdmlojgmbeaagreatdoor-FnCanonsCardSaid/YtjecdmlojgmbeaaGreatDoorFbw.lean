/- Contracts: l01Below at any bound; l01Pick. -/
import Derived.Test.YtjecdmlojgmbeaaGreatDoorFcur
import Derived.Test.YtjecdmlojgmbeaaGreatDoorRhy
namespace Go.Proofs.YtjecdmlojgmbeaaGreatDoor
open Go.RowKit
set_option maxRecDepth 100000 in
set_option maxHeartbeats 2000000 in
theorem l01BelowW_c (l : List Int) (q : Nat) (v : Value) (w0 w : World) (b : Nat) (hv : Byts w0 v l) (hc : Cur w0 w b v l.length) (hq : 257 ≤ q ∧ q ≤ 100000) : Calls Tryz.prog 38 #[.pointer (some ⟨b, 0, none⟩), .int .i64 q] w (BelowPost w0 w b v l.length q) := by
  have h1 : ¬ (q : Int) ≤ 0 := by omega
  have h2 : ¬ (q : Int) ≤ 256 := by omega
  have h3 : (1 : Int) ≤ (q : Int) := by omega
  have h4 : ((q : Int) == 0) = false := by rw [beq_eq_false_iff_ne]; omega
  have Hv := Lib.hid hv
  have Hc := Lib.hid hc
  clear hv hc
  go_enter Tryz.func38, Tryz.ntmps38
  have tokA : True := trivial
  have tokB : True := trivial
  have tokC : True := trivial
  have tokD : True := trivial
  go_wp2_with (first | (go_at_call 25; clear tokA; refine (l01Byte_c l _ _ _ _ Hv.out Hc.out).mono ?_; rintro e w2 ⟨x, hlx, rfl, hcw2, hgw2⟩) | (go_at_call 25; clear tokB; refine (l01Byte_c l _ _ _ _ Hv.out hcw2).mono ?_; rintro e w3 ⟨y, hly, rfl, hcw3, hgw3⟩) | (go_at_call 25; clear tokC; refine (l01Byte_c l _ _ _ _ Hv.out hcw3).mono ?_; rintro e w4 ⟨z, hlz, rfl, hcw4, hgw4⟩) | (go_at_call 25; clear tokD; refine (l01Byte_c l _ _ _ _ Hv.out hcw4).mono ?_; rintro e w5 ⟨u, hlu, rfl, hcw5, hgw5⟩; obtain ⟨s, hs⟩ : ∃ s : Nat, s = x * 16777216 + y * 65536 + z * 256 + u := ⟨_, rfl⟩; have hsi : (x : Int) * 16777216 + (y : Int) * 65536 + (z : Int) * 256 + (u : Int) = (s : Int) := (by omega); have hsm : (s : Int) % (q : Int) = ((s % q : Nat) : Int) := (by omega); have hsw : IntKind.i64.wrap (s : Int) = (s : Int) := IntWalk.i64_in _ (by omega); have hst : IntKind.i64.wrap ((s : Int).tmod (q : Int)) = ((s % q : Nat) : Int) := (by rw [Int.tmod_eq_emod_of_nonneg (by omega), hsm]; exact IntWalk.i64_in _ (by have := Nat.mod_lt s (show 0 < q by omega); omega)); clear hs))
  go_ret
  exact ⟨s % q, Nat.mod_lt _ (by omega), by first | rfl | rw [← hsm], hcw5, grownBy_tr hgw2 (grownBy_tr hgw3 (grownBy_tr hgw4 hgw5))⟩
theorem l01BelowA_c (l : List Int) (q : Nat) (v : Value) (w0 w : World) (b : Nat) (hv : Byts w0 v l) (hc : Cur w0 w b v l.length) (hq : 1 ≤ q ∧ q ≤ 100000) : Calls Tryz.prog 38 #[.pointer (some ⟨b, 0, none⟩), .int .i64 q] w (BelowPost w0 w b v l.length q) := by
  by_cases h : q ≤ 256
  · exact l01Below_c l q v w0 w b hv hc ⟨hq.1, h⟩
  · exact l01BelowW_c l q v w0 w b hv hc ⟨by omega, hq.2⟩
set_option maxRecDepth 100000 in
set_option maxHeartbeats 2000000 in
theorem l01Pick_c (l : List Int) (ns : List Int) (v u : Value) (w0 w : World) (b : Nat) (hv : Byts w0 v l) (hc : Cur w0 w b v l.length) (hu : Own w (b + 1) u ns) (hn : 1 ≤ ns.length ∧ ns.length ≤ 256) : Calls Tryz.prog 36 #[.pointer (some ⟨b, 0, none⟩), u] w (fun e w' => ∃ x : Int, x ∈ ns ∧ e = .returned (.int .i64 x) ∧ Cur w0 w' b v l.length ∧ w.grownBy w' (some b)) := by
  have Hv := Lib.hid hv
  have Hc := Lib.hid hc
  have Hu := Lib.hid hu
  obtain ⟨g, c, hue, _⟩ := hu.shape (by omega)
  obtain ⟨k, hk⟩ : ∃ k, k = ns.length := ⟨_, rfl⟩
  rw [← hk] at hue hn
  subst hue
  have Hk := Lib.hid hk
  clear hv hc hu hk
  go_enter Tryz.func36, Tryz.ntmps36
  go_wp2_with (first | (go_at_call 38; refine (l01Below_c l k _ _ _ _ Hv.out Hc.out (by omega)).mono ?_; rintro e w2 ⟨x, hlx, rfl, hcw2, hgw2⟩; (have hx : ns[x]? = some (ns.getD x 0) := get_of_lt (by rw [← Hk.out]; assumption); have Hx := Lib.hid hx; have hcl := (Hu.out.kept hgw2 (.inr (Hu.out.ne_lt (by omega)))).cell hx; have hxi : (x : Int) < (k : Int) := (by omega); obtain ⟨y, hy⟩ : ∃ y, y = ns.getD x 0 := ⟨_, rfl⟩; rw [← hy] at hcl Hx; clear hx hy)))
  go_ret
  exact ⟨y, List.mem_of_getElem? Hx.out, rfl, hcw2, hgw2⟩
end Go.Proofs.YtjecdmlojgmbeaaGreatDoor
