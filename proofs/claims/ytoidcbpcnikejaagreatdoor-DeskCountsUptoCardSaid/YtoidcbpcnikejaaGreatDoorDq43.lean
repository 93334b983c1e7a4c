/- Parts of this claim: WldR, TpP. -/
import Derived.Test.YtoidcbpcnikejaaGreatDoorDqWldF
set_option linter.unusedVariables false
set_option linter.unusedSimpArgs false
set_option maxRecDepth 100000
set_option maxHeartbeats 12800000
namespace Go.Proofs.YtoidcbpcnikejaaGreatDoor
open Go.RowKit
section
variable {R : Nat → Prop} {p : Wp} {m : Wo} {w : World}
theorem woNow (h : WoN R w p m) : Calls Tryz.prog 85 #[.pointer (some ⟨p.g, 0, none⟩)] w fun e w' => e = .returned (.int .i64 m.now) ∧ w = w' := by
 have x8 := h.at.here (i := 8) rfl
 clear h
 go_enter Tryz.func85, Tryz.ntmps85
 go_wp2_with fail
 go_ret
 exact ⟨rfl, rfl⟩
theorem woTarget (h : WoN R w p m) : Calls Tryz.prog 86 #[.pointer (some ⟨p.g, 0, none⟩)] w fun e w' => e = .returned (.int .i64 m.target) ∧ w = w' := by
 have x9 := h.at.here (i := 9) rfl
 clear h
 go_enter Tryz.func86, Tryz.ntmps86
 go_wp2_with fail
 go_ret
 exact ⟨rfl, rfl⟩
theorem woPodsOf (h : WoN R w p m) : Calls Tryz.prog 87 #[.pointer (some ⟨p.g, 0, none⟩)] w (FleAllPost w m.f) := by
 have x3 := h.at.here (i := 3) rfl
 have HH := J h
 clear h
 go_enter Tryz.func87, Tryz.ntmps87
 go_wp2_with fail
 refine (woPods _ HH.u).mono ?_
 rintro e w2 ⟨v, rfl, ho, hb⟩
 obtain ⟨A, cap, rfl, _, _, _⟩ := ho.slice
 have HO := J ho; have HB := J hb
 clear ho hb x3
 go_wp2_with fail
 go_ret
 exact ⟨_, rfl, HO.u, HB.u⟩
theorem woReqsOf (h : WoN R w p m) : Calls Tryz.prog 88 #[.pointer (some ⟨p.g, 0, none⟩)] w (BufAllPost w m.b) := by
 have x4 := h.at.here (i := 4) rfl
 have HH := J h
 clear h
 go_enter Tryz.func88, Tryz.ntmps88
 go_wp2_with fail
 refine (woReqs _ HH.u).mono ?_
 rintro e w2 ⟨v, rfl, ho, hb⟩
 obtain ⟨A, cap, rfl, _, _, _⟩ := ho.slice
 have HO := J ho; have HB := J hb
 clear ho hb x4
 go_wp2_with fail
 go_ret
 exact ⟨_, rfl, HO.u, HB.u⟩
end
open Go.RowKit
theorem req_cells {S : Nat → Prop} {w : World} {v : Value} {l : List G.Req} (h : G.OwnRow S w 181 5 v l.length (l.flatMap G.Req.enc)) {k : Nat} {r : G.Req} (hk : l[k]? = some r) :
  ∃ b cap, v = .slice (some ⟨b, 0, none⟩) l.length cap ∧ b < w.heap.size ∧ w.cell? ⟨b, k * 5, none⟩ = some (.int .i64 r.id) ∧ w.cell? ⟨b, k * 5 + 1, none⟩ = some (.int .i64 r.source) ∧ w.cell? ⟨b, k * 5 + 2, none⟩ = some (.int .i64 r.till) ∧
   w.cell? ⟨b, k * 5 + 3, none⟩ = some (.int .i64 r.fate) ∧ w.cell? ⟨b, k * 5 + 4, none⟩ = some (.int .i64 r.pod) := by
 obtain ⟨b, cap, e, hS, h1, h2, h3⟩ := h.form (by have := G.get_lt hk; omega)
 exact ⟨b, cap, e, h3.inside, h3.cell (G.flat_get (j := 0) G.Req.enc_length hk rfl), h3.cell (G.flat_get (j := 1) G.Req.enc_length hk rfl), h3.cell (G.flat_get (j := 2) G.Req.enc_length hk rfl), h3.cell (G.flat_get (j := 3) G.Req.enc_length hk rfl), h3.cell (G.flat_get (j := 4) G.Req.enc_length hk rfl)⟩
inductive AnyNew (w : World) (p : Pln) (parts most sec : Int) : Ending → World → Prop
 | bad (w' : World) (E : Int) (he : newE p parts sec = E) (h0 : E ≠ 0) (hb : Below w.heap.size w w') : AnyNew w p parts most sec (.returned (.tuple #[.pointer none, .int .i64 E])) w'
 | good (w' : World) (q : Wp) (he : newE p parts sec = 0) (hn : WoN (fun b => b < w.heap.size) w' q (newWo p parts most sec)) (hok : (newWo p parts most sec).ok 0) (hb : Below w.heap.size w w') : AnyNew w p parts most sec (.returned (.tuple #[.pointer (some ⟨q.g, 0, none⟩), .int .i64 0])) w'
theorem anyNew (p : Pln) (A : Option Addr) (cap : Nat) (parts most sec : Int) (w : World) (ht : G.ListIn w 17 Trg.enc (.slice A p.trigs.length cap) p.trigs) (hf : ∀ t ∈ p.trigs, t.fits) (hn : p.name.size ≤ 9223372036854775807) (hl : p.trigs.length ≤ 9223372036854775807) :
  Calls Tryz.prog 56 #[plnV p (.slice A p.trigs.length cap), .int .i64 parts, .int .i64 most, .int .i64 sec] w (AnyNew w p parts most sec) := by
 by_cases hE : planE p = 0
 ·by_cases hb : (parts < 1 ∨ 20 < parts) ∨ (sec < -10000000000 ∨ 10000000000 < sec)
  ·have he : newE p parts sec = 1 := by
    unfold newE
    rw [if_neg (by rw [hE]; simp)]
    split
    ·rfl
    split
    ·rfl
    omega
   refine (woNewNo p A cap parts most sec w ht hf hn hE hb).mono ?_
   rintro e w' ⟨rfl, h⟩
   exact .bad w' _ rfl (by rw [he]; decide) h
  have he : newE p parts sec = 0 := by
   unfold newE
   rw [if_neg (by rw [hE]; simp), if_neg (by omega), if_neg (by omega)]
  obtain ⟨n, rfl⟩ := Int.eq_ofNat_of_zero_le (show 0 ≤ parts by omega)
  refine (woNewYes p A cap n most sec w ht hf hn hE (by omega) (by omega) (by omega) (by omega)).mono ?_
  rintro e w' ⟨q, rfl, h1, h2⟩
  exact .good w' q he h1 (ok_new hE hf (by omega) (by omega) (by omega)) h2
 refine (woNewBad p A cap parts most sec w ht hf hn hl hE).mono ?_
 rintro e w' ⟨rfl, h⟩
 exact .bad w' _ rfl (by rw [wo_new_err1 hE]; exact hE) h
end Go.Proofs.YtoidcbpcnikejaaGreatDoor
