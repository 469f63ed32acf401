/- The law's own functions: same. -/
import Derived.Test.YtookojfigjdgcaaDoorX
import Derived.Test.YtookojfigjdgcaaDoorF
set_option linter.unusedVariables false
set_option linter.unusedSimpArgs false
namespace Go.Proofs.YtookojfigjdgcaaDoor
open Go.RowKit
set_option maxRecDepth 100000 in
set_option maxHeartbeats 4000000 in
/-- same: of two pieces with the same numbers and the same bytes -/
theorem same_any (W : World) (id at_ total sum : Int) (a1 a2 : Option Addr) (n c1 c2 : Nat) (l : List UInt8) (h1 : RowY W a1 l) (h2 : RowY W a2 l) (hn : l.length = n) (hc1 : n ≤ c1) (hc2 : n ≤ c2) (hz1 : a1 = none → c1 = 0) (hz2 : a2 = none → c2 = 0) :
    Calls Tryd.prog 11 #[.agg (pcv ⟨id, at_, total, sum, a1, n, c1⟩), .agg (pcv ⟨id, at_, total, sum, a2, n, c2⟩)] W fun r W' => r = .returned (.bool true) ∧ Fr (fun _ => False) W W' := by
  have hp := Blk.new W 36 (pcv ⟨id, at_, total, sum, a1, n, c1⟩)
  have hf : Fr (fun _ => False) W (W.alloc (.cells (pcv ⟨id, at_, total, sum, a1, n, c1⟩) 36)) := Fr.alloc _ _ _
  have hq := Blk.new (W.alloc (.cells (pcv ⟨id, at_, total, sum, a1, n, c1⟩) 36)) 37 (pcv ⟨id, at_, total, sum, a2, n, c2⟩)
  have hf2 : Fr (fun _ => False) (W.alloc (.cells (pcv ⟨id, at_, total, sum, a1, n, c1⟩) 36)) ((W.alloc (.cells (pcv ⟨id, at_, total, sum, a1, n, c1⟩) 36)).alloc (.cells (pcv ⟨id, at_, total, sum, a2, n, c2⟩) 37)) := Fr.alloc _ _ _
  obtain ⟨g, hg⟩ : ∃ g, W.heap.size = g := ⟨_, rfl⟩
  obtain ⟨w1, hw1⟩ : ∃ w, W.alloc (.cells (pcv ⟨id, at_, total, sum, a1, n, c1⟩) 36) = w := ⟨_, rfl⟩
  rw [hw1] at hp hf hq hf2
  rw [hg] at hp
  obtain ⟨g2, hg2⟩ : ∃ g, w1.heap.size = g := ⟨_, rfl⟩
  obtain ⟨w2, hw2⟩ : ∃ w, w1.alloc (.cells (pcv ⟨id, at_, total, sum, a2, n, c2⟩) 37) = w := ⟨_, rfl⟩
  rw [hw2] at hq hf2
  rw [hg2] at hq
  have hp2 := hp.fr hf2 (fun e => e)
  have hF := hf.trans hf2
  have k1 := str_of w2 a1 n c1 l (h1.fr0 hF) hn hc1 hz1
  have k2 := str_of w2 a2 n c2 l (h2.fr0 hF) hn hc2 hz2
  have HF := Lib.hid hF
  have s0 := hp2.cell 0
  have s1 := hp2.cell 1
  have s2 := hp2.cell 2
  have s3 := hp2.cell 3
  have s4 := hp2.cell 4
  have t0 := hq.cell 0
  have t1 := hq.cell 1
  have t2 := hq.cell 2
  have t3 := hq.cell 3
  have t4 := hq.cell 4
  simp only [pcv, List.getElem?_toArray, List.getElem?_cons_zero, List.getElem?_cons_succ] at s0 s1 s2 s3 s4 t0 t1 t2 t3 t4
  simp only [pcv] at hw1 hw2 ⊢
  obtain ⟨st, hst⟩ : ∃ s : ByteArray, (⟨l.toArray⟩ : ByteArray) = s := ⟨_, rfl⟩
  rw [hst] at k1 k2
  clear h1 h2 hn hc1 hc2 hz1 hz2 hp hf hq hf2 hp2 hF hst
  go_enter Tryd.func11, Tryd.ntmps11
  go_upto_region 1 with (fail)
  try rw [hw1]
  try rw [hw2]
  try rw [hg]
  try rw [hg2]
  clear hw1 hw2 hg hg2
  go_wp2
  go_ret
  exact ⟨rfl, HF.out⟩
end Go.Proofs.YtookojfigjdgcaaDoor
