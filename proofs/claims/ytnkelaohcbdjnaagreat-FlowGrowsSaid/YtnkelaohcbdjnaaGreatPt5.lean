/- put: every kind. -/
import Derived.Test.YtnkelaohcbdjnaaGreatPt
import Derived.Test.YtnkelaohcbdjnaaGreatPt2
import Derived.Test.YtnkelaohcbdjnaaGreatPt3
import Derived.Test.YtnkelaohcbdjnaaGreatPt4
set_option linter.unusedVariables false
set_option linter.unusedSimpArgs false
namespace Go.Proofs.YtnkelaohcbdjnaaGreat
open Go.RowKit Go.Maps
set_option maxRecDepth 100000 in
set_option maxHeartbeats 8000000 in
theorem put_any (S : Nat → Prop) (W : World) (fb mb : Nat) (s : FSt) (h : PF S W fb mb s) (hmc : s.mc ≤ 1000000) (hl : s.l.length ≤ 50000) (k a r i l n : Int) (ao : Option Addr) (dl cp : Nat) (ds : List Value) (hd : RowB (fun _=>False) W (.slice ao dl cp) ds) (hdl : ds.length ≤ 100000) (hd1 : ∀ u ∈ ds,u.oneCell' = true) (s' : FSt) (hp : PutP s k a r i l n ds s') :
 Calls Tryz.prog 21 #[.pointer (some ⟨fb,0,none⟩),.agg #[.int .i64 k,.int .i64 a,.int .i64 r,.int .i64 i,.int .i64 l,.int .i64 n,.slice ao dl cp]] W fun e W'=>e = .returned (.int .i64 ((s.l.length : Int) + 1)) ∧ PF S W' fb mb s' ∧ Fr (fun q=>q = fb ∨ q = mb) W W':=by
 rcases hp with hp | hp | hp | hp | hp | hp | hp | hp | hp | hp | hp | hp | hp
 ·exact put_A S W fb mb s h hmc hl k a r i l n ao dl cp ds hd hdl hd1 s' (.inl hp)
 ·exact put_A S W fb mb s h hmc hl k a r i l n ao dl cp ds hd hdl hd1 s' (.inr (.inl hp))
 ·exact put_A S W fb mb s h hmc hl k a r i l n ao dl cp ds hd hdl hd1 s' (.inr (.inr (.inl hp)))
 ·exact put_A S W fb mb s h hmc hl k a r i l n ao dl cp ds hd hdl hd1 s' (.inr (.inr (.inr (.inl hp))))
 ·exact put_A S W fb mb s h hmc hl k a r i l n ao dl cp ds hd hdl hd1 s' (.inr (.inr (.inr (.inr (hp)))))
 ·exact put_B S W fb mb s h hmc hl k a r i l n ao dl cp ds hd hdl hd1 s' (.inl hp)
 ·exact put_B S W fb mb s h hmc hl k a r i l n ao dl cp ds hd hdl hd1 s' (.inr (.inl hp))
 ·exact put_B S W fb mb s h hmc hl k a r i l n ao dl cp ds hd hdl hd1 s' (.inr (.inr (hp)))
 ·exact put_C S W fb mb s h hmc hl k a r i l n ao dl cp ds hd hdl hd1 s' (.inl hp)
 ·exact put_C S W fb mb s h hmc hl k a r i l n ao dl cp ds hd hdl hd1 s' (.inr (.inl hp))
 ·exact put_C S W fb mb s h hmc hl k a r i l n ao dl cp ds hd hdl hd1 s' (.inr (.inr (hp)))
 ·exact put_D S W fb mb s h hmc hl k a r i l n ao dl cp ds hd hdl hd1 s' (.inl hp)
 ·exact put_D S W fb mb s h hmc hl k a r i l n ao dl cp ds hd hdl hd1 s' (.inr (hp))
end Go.Proofs.YtnkelaohcbdjnaaGreat
