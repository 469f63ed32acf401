/- The reference's Names. -/
import Derived.Test.YtklfppjejndclaaH
set_option linter.unusedVariables false
set_option linter.unusedSimpArgs false
namespace Go.Proofs.Ytklfppjejndclaa.P2
open Go.RowKit Go.Maps Go.Sort
variable {W : World} {rb B0 : Nat} {T : Int} {L : List (Int × Int)}
theorem wpl_app {P : Program} {W w' : World} {ops : Array Oper} {rest : List Oper} {o : Oper} {A : Act} {Q : Exit → Act → World → Prop} (hgd : o.guard = none) (s x : Operand) {t : TypeId} (ho : o.op = .call { callee := .builtin .append, args := #[s, x], argTypes := #[t, t] }) {v xv v' : Value}
    (hs : A.eval s = v) (hx : A.eval x = xv) (hr : (Builtin.append_ #[t, t] o.type #[v, xv]).run P W = .ok v' w') (h : wpList P ops Q rest (A.put o.dst v') w') : wpList P ops Q (o :: rest) A W := by
  refine wpList_plain hgd fun K hK => ?_
  unfold Oper.wp execOp
  simp only [ho, resolve, invoke, builtin, Sem.run_bind, Sem.run_pure, Result.andThen_ok, List.map_toArray, List.map_cons, List.map_nil, hs, hx, hr]
  exact hK _ _ h
/-- an append of integers to a row of one's own -/
theorem runI_app (W : World) {base n : Nat} {v : Value} {xs : List Value} (hown : W.ownsRow base 3 1 v n xs) (ao : Option Addr) (m c : Nat) (news : List Value) (hl : news.length = m) (h0 : ao = none → m = 0 ∧ c = 0)
    (hnews : ∀ ad, ao = some ad → ∀ j u, news[j]? = some u → W.cell? (ad.add j) = some u) (h1 : ∀ u ∈ news, u.oneCell' = true) (hle : n + m ≤ 100000) (hbase : base ≤ W.heap.size) :
    ∃ v' w', (Builtin.append_ #[22, 22] 22 #[v, .slice ao m c]).run Try.prog W = .ok v' w' ∧ w'.ownsRow base 3 1 v' (n + m) (xs ++ news) ∧ W.grownBy w' v.ownBlock := by
  obtain ⟨i0, hi, hz0, hz1, hz2⟩ := info_parts infoIE
  cases ao with
  | none =>
    obtain ⟨rfl, rfl⟩ := h0 rfl
    obtain rfl : news = [] := List.eq_nil_of_length_eq_zero hl
    exact ⟨v, W, run_append_owned_none (P := Try.prog) (w := W) base 22 22 3 i0 1 Try.underlying22 hi v n xs hown, by simpa using hown, World.grownBy.refl _ _⟩
  | some ad =>
    obtain ⟨v', w', h2, h3, h4, _⟩ := run_append_own_at (P := Try.prog) W base 22 22 3 i0 _ 1 8 Try.underlying22 hi hz0 hz1 hz2 rfl (by decide) v n xs hown ad m c news (by rw [hl, Nat.mul_one]) (hnews ad rfl) h1 (by unfold maxLen; omega) (by omega) hbase
    exact ⟨v', w', h2, h3, h4⟩
theorem owns_empty3 (w : World) : (w.alloc (.cells #[] 3)).ownsRow w.heap.size 3 1 (.slice (some ⟨w.heap.size, 0, none⟩) 0 0) 0 [] := ⟨rfl, .inr ⟨_, 0, #[], rfl, Nat.le_refl _, World.alloc_heap_new w _, Nat.le_refl _, by decide, rfl, rfl⟩⟩
theorem cell_one3 (w : World) (z : Int) : ∀ j u, [Value.int .i64 z][j]? = some u → (w.alloc (.cells #[.int .i64 z] 3)).cell? ((⟨w.heap.size, 0, none⟩ : Addr).add j) = some u := fun j u hj => by
  rw [off_add, Nat.zero_add, World.cell?_alloc_mark]
  simpa using hj
theorem cell_alloc3 {w : World} {a : Addr} {news : List Value} (h : ∀ j u, news[j]? = some u → w.cell? (a.add j) = some u) (o : Obj) : ∀ j u, news[j]? = some u → (w.alloc o).cell? (a.add j) = some u := fun j u hj =>
  (World.cell?_of_block ((Fr.alloc (fun _ => False) w o).block _ (lt_of_cell (h j u hj)) id)).trans (h j u hj)
theorem zv_snoc (l : List Int) (z : Int) : zv (l ++ [z]) = zv l ++ [.int .i64 z] := by simp [zv]
theorem zv_app (l m : List Int) : zv (l ++ m) = zv l ++ zv m := by simp [zv]
/-- the names of some tasks, rising -/
def NamesOf (L : List (Int × Int)) (ys : List Int) : Prop := ys.Pairwise (· < ·) ∧ ∀ z, z ∈ ys ↔ ∃ p ∈ L, p.1 = z
theorem NamesOf.nil : NamesOf [] [] := ⟨List.Pairwise.nil, fun z => by simp⟩
theorem names_step {i : Nat} {q : Int × Int} (h : L[i]? = some q) (z : Int) : (∃ p ∈ L.take (i + 1), p.1 = z) ↔ (∃ p ∈ L.take i, p.1 = z) ∨ q.1 = z := by
  rw [List.take_add_one, h]
  constructor
  · rintro ⟨p, hp, rfl⟩
    rcases List.mem_append.1 hp with hp | hp
    · exact .inl ⟨p, hp, rfl⟩
    · simp at hp; exact .inr (by rw [hp])
  · rintro (⟨p, hp, rfl⟩ | rfl)
    · exact ⟨p, List.mem_append_left _ hp, rfl⟩
    · exact ⟨q, List.mem_append_right _ (by simp), rfl⟩
theorem NamesOf.same {i k : Nat} {q : Int × Int} {ys : List Int} (h : NamesOf (L.take i) ys) (hq : L[i]? = some q) (hk : ys[k]? = some q.1) : NamesOf (L.take (i + 1)) ys := by
  refine ⟨h.1, fun z => ?_⟩
  rw [names_step hq, ← h.2]
  refine ⟨.inl, fun hh => ?_⟩
  rcases hh with hh | rfl
  · exact hh
  · exact List.mem_of_getElem? hk
theorem NamesOf.put {i k : Nat} {q : Int × Int} {ys : List Int} (h : NamesOf (L.take i) ys) (hq : L[i]? = some q) (hlo : ∀ (j : Nat) (y : Int), j < k → ys[j]? = some y → y < q.1) (hhi : ∀ y, ys[k]? = some y → q.1 < y) : NamesOf (L.take (i + 1)) (ys.take k ++ [q.1] ++ ys.drop k) := by
  have hso := h.1
  rw [← List.take_append_drop k ys] at hso
  have h1 := List.pairwise_append.1 hso
  have hup : ∀ y ∈ ys.drop k, q.1 < y := by
    have h2 := h1.2.1
    cases hd : ys.drop k with
    | nil => intro p hp; cases hp
    | cons c r =>
      have hc : ys[k]? = some c := by
        have : (ys.drop k)[0]? = some c := by rw [hd]; rfl
        rw [List.getElem?_drop] at this; exact this
      have hqc := hhi c hc
      rw [hd] at h2
      intro y hy
      rcases List.mem_cons.1 hy with rfl | hy
      · exact hqc
      · exact Int.lt_trans hqc ((List.pairwise_cons.1 h2).1 y hy)
  have hlow : ∀ y ∈ ys.take k, y < q.1 := fun y hy => by
    obtain ⟨j, hj⟩ := List.getElem?_of_mem hy
    have hjk : j < k := by have := (List.getElem?_eq_some_iff.1 hj).1; rw [List.length_take] at this; omega
    rw [List.getElem?_take_of_lt hjk] at hj
    exact hlo j y hjk hj
  refine ⟨?_, fun z => ?_⟩
  · rw [List.append_assoc]
    refine List.pairwise_append.2 ⟨h1.1, List.pairwise_cons.2 ⟨hup, h1.2.1⟩, fun a ha b hb => ?_⟩
    rcases List.mem_cons.1 hb with rfl | hb
    · exact hlow a ha
    · exact h1.2.2 a ha b hb
  · rw [names_step hq, ← h.2]
    conv => rhs; rw [← List.take_append_drop k ys]
    simp only [List.mem_append, List.mem_singleton]
    constructor
    · rintro ((h | rfl) | h)
      · exact .inl (.inl h)
      · exact .inr rfl
      · exact .inl (.inr h)
    · rintro ((h | h) | rfl)
      · exact .inl (.inl h)
      · exact .inr h
      · exact .inl (.inr rfl)
theorem owns_slice3 {W : World} {base n : Nat} {v : Value} {xs : List Value} (h : W.ownsRow base 3 1 v n xs) : ∃ ao cp, v = .slice ao n cp := by
  rcases h.2 with ⟨rfl, rfl⟩ | ⟨g, cap, cur, rfl, _⟩
  · exact ⟨_, _, rfl⟩
  · exact ⟨_, _, rfl⟩
set_option maxRecDepth 100000 in
set_option maxHeartbeats 4000000 in
theorem rnames_any (h : RC W rb B0 T L) (hL : L.length ≤ 1000) :
    Calls Try.prog 36 #[.pointer (some ⟨rb, 0, none⟩)] W fun e W' => ∃ (v : Value) (ys : List Int), e = .returned v ∧ W'.ownsRow W.heap.size 3 1 v ys.length (zv ys) ∧ NamesOf L ys ∧ ys.length ≤ L.length ∧ Fr (fun _ => False) W W' := by
  obtain ⟨ao, cp0, hs, hcp, hcm, hc⟩ := h.open
  have c1 := hs.cell 1
  simp only [List.getElem?_toArray, List.getElem?_cons_zero, List.getElem?_cons_succ] at c1
  obtain ⟨n, hn⟩ : ∃ n, L.length = n := ⟨_, rfl⟩
  rw [hn] at c1 hcp hL
  have HN := Lib.hid hn
  have HC := Lib.hid hc
  have hrl := hs.lt
  clear h hs hc
  go_enter Try.func36, Try.ntmps36
  go_wp2
  go_loopw [3, 4] (fun ov kv wr => ∃ (i : Nat) (ys : List Int), i ≤ n ∧ kv = .int .i64 i ∧ wr.ownsRow W.heap.size 3 1 ov ys.length (zv ys) ∧ NamesOf (L.take i) ys ∧ ys.length ≤ i ∧ Fr (fun _ => False) W wr) (fun _ kv _ => n - (intOf kv).toNat)
  case atStart => exact ⟨0, [], by omega, rfl, World.ownsRow_nil _ _ _ _, NamesOf.nil, Nat.le_refl _, Fr.refl _ _⟩
  case round =>
    obtain ⟨i, ys, hi, rfl, hown, hna, hyl, hfr⟩ := hrel
    have k1 := (World.cell?_of_block (hfr.block rb hrl id)).trans c1
    have hsz0 := hfr.size
    have HFR := Lib.hid hfr
    have HNA := Lib.hid hna
    have OWN := Lib.hid hown
    by_cases hlt : i < n
    · have p0 : decide ((i : Int) < n) = true := decide_eq_true (by omega)
      have i0' : (i : Int) < (n : Int) := by omega
      obtain ⟨q, hq⟩ : ∃ q, L[i]? = some q := ⟨_, List.getElem?_eq_getElem (by rw [HN.out]; exact hlt)⟩
      rcases HC.out with ⟨_, h, _⟩ | ⟨g, rfl, hg, hcell⟩
      · have := HN.out; rw [h] at this; simp at this; omega
      have d0 := hcell (i * 2) _ (flat_at hq).1
      have e0 := (World.cell?_of_block (hfr.block g (lt_of_cell d0) id)).trans d0
      have hgl := lt_of_cell e0
      have hrl2 : rb < wr.heap.size := by omega
      have HQ := Lib.hid hq
      obtain ⟨z, hz⟩ : ∃ z, q.1 = z := ⟨_, rfl⟩
      rw [hz] at e0
      have HZ := Lib.hid hz
      obtain ⟨m, hm⟩ : ∃ m, ys.length = m := ⟨_, rfl⟩
      have HM := Lib.hid hm
      rw [hm] at hown hyl OWN
      obtain ⟨ao3, cp, rfl, hcp2, hcm2, hfm⟩ : ∃ (ao3 : Option Addr) (cp : Nat), u3 = .slice ao3 m cp ∧ m ≤ cp ∧ cp ≤ maxLen ∧ ((ao3 = none ∧ m = 0 ∧ cp = 0) ∨ ∃ go, ao3 = some ⟨go, 0, none⟩ ∧ W.heap.size ≤ go ∧ go < wr.heap.size ∧ ∀ (j : Nat) (y : Int), ys[j]? = some y → wr.cell? ⟨go, j, none⟩ = some (.int .i64 y)) := by
        have hcs := hown
        rcases hown.2 with ⟨h, h0⟩ | ⟨go, cp, cur, rfl, hb, hgb, hnc, hcm, _, _⟩
        · subst h0; exact ⟨none, 0, h, Nat.le_refl _, by decide, .inl ⟨rfl, rfl, rfl⟩⟩
        · refine ⟨_, cp, rfl, hnc, hcm, .inr ⟨go, rfl, hb, (Array.getElem?_eq_some_iff.1 hgb).1, fun j y hj => ?_⟩⟩
          rw [hcs.cellAt j (by have := (List.getElem?_eq_some_iff.1 hj).1; omega)]
          simp [zv, hj]
      have HFM := Lib.hid hfm
      clear hcell hq hown d0 c1 hfr hna hm hz hfm hn
      go_upto_block 2 with (fail)
      go_cut [5] (fun s5 wx => ∃ k : Nat, k ≤ m ∧ s5 = .int .i64 k ∧ (∀ (j : Nat) (y : Int), j < k → ys[j]? = some y → y < z) ∧ (∀ y, ys[k]? = some y → ¬ y < z) ∧ ∃ nd, wx = wr.drewN nd)
      case first =>
        go_wp2_with fail
        go_loopw [5] (fun kv wy => ∃ k : Nat, k ≤ m ∧ kv = .int .i64 k ∧ (∀ (j : Nat) (y : Int), j < k → ys[j]? = some y → y < z) ∧ ∃ nd, wy = wr.drewN nd) (fun kv _ => m - (intOf kv).toNat)
        case atStart => exact ⟨0, by omega, rfl, fun j y h => by omega, 0, rfl⟩
        case round =>
          obtain ⟨k, hk, rfl, hno, nd, rfl⟩ := hrel
          by_cases hlk : k < m
          · have t0 : decide ((k : Int) < m) = true := decide_eq_true (by omega)
            have t0' : (k : Int) < (m : Int) := by omega
            rcases HFM.out with ⟨_, h, _⟩ | ⟨go, rfl, _, hgo, hoc⟩
            · omega
            obtain ⟨y, hy⟩ : ∃ y, ys[k]? = some y := ⟨_, List.getElem?_eq_getElem (by rw [HM.out]; exact hlk)⟩
            have f3 : wr.cell? ⟨go, k, none⟩ = some (.int .i64 y) := hoc k y hy
            have HY := Lib.hid hy
            have HNO := Lib.hid hno
            clear hoc hy hno
            by_cases hyz : y < z
            · have t1 : decide (y < z) = true := decide_eq_true hyz
              have HNO2 : Hid (∀ (j : Nat) (v : Int), j < k + 1 → ys[j]? = some v → v < z) := Lib.hid (fun j v hj hv => by
                by_cases e : j = k
                · subst e; rw [HY.out] at hv; cases hv; exact hyz
                · exact HNO.out j v (by omega) hv)
              clear hyz
              go_wp2
              go_quiet (fail)
              go_wp2
              go_roundw
              case rel => exact ⟨k + 1, by omega, by go_num, HNO2.out, nd + nq, (by first | rfl | exact World.drewN_drewN ..)⟩
              case measure => simp [intOf]; omega
            · have t1 : decide (y < z) = false := decide_eq_false hyz
              have HST : Hid (∀ v, ys[k]? = some v → ¬ v < z) := Lib.hid (fun v hv => by rw [HY.out] at hv; cases hv; exact hyz)
              clear hyz
              go_wp2
              go_quiet (fail)
              go_wp2
              go_meet
              exact ⟨k, hk, rfl, HNO.out, HST.out, nd + nq, (by first | rfl | exact World.drewN_drewN ..)⟩
          · obtain rfl : k = m := by omega
            have t0 : decide ((k : Int) < k) = false := decide_eq_false (by omega)
            have HNO := Lib.hid hno
            clear hno
            go_wp2
            go_quiet (fail)
            go_wp2
            go_meet
            exact ⟨k, hk, rfl, HNO.out, fun v hv => (by have := (List.getElem?_eq_some_iff.1 hv).1; have := HM.out; omega), nd + nq, (by first | rfl | exact World.drewN_drewN ..)⟩
      case rest =>
        obtain ⟨k, hk, rfl, hlo, hhi, nd, rfl⟩ := hcut
        have HLO := Lib.hid hlo
        have HHI := Lib.hid hhi
        clear hlo hhi
        by_cases hse : ys[k]? = some z
        · have hlk : k < m := by have := (List.getElem?_eq_some_iff.1 hse).1; have := HM.out; omega
          have t0 : decide ((k : Int) < m) = true := decide_eq_true (by omega)
          have t0' : (k : Int) < (m : Int) := by omega
          rcases HFM.out with ⟨_, h, _⟩ | ⟨go, rfl, _, hgo, hoc⟩
          · omega
          have f3 : wr.cell? ⟨go, k, none⟩ = some (.int .i64 z) := hoc k z hse
          have t1 : (z == z) = true := by simp
          have HSE := Lib.hid hse
          clear hoc hse
          go_wp2
          go_quiet (fail)
          go_wp2
          go_roundw
          case rel => exact ⟨i + 1, ys, by omega, by go_num, by rw [HM.out]; exact OWN.out, HNA.out.same HQ.out (by rw [HZ.out]; exact HSE.out), by rw [HM.out]; omega, HFR.out.trans (Fr.drewN _ wr (nd + nq))⟩
          case measure => simp [intOf]; omega
        · have HSE := Lib.hid hse
          have HGT : Hid (∀ y, ys[k]? = some y → z < y) := Lib.hid (fun y hy => by
            have h1 := HHI.out y hy
            have h2 : y ≠ z := fun e => hse (by rw [hy, e])
            omega)
          clear hse
          by_cases hlk : k < m
          · have t0 : decide ((k : Int) < m) = true := decide_eq_true (by omega)
            have t0' : (k : Int) < (m : Int) := by omega
            rcases HFM.out with ⟨_, h, _⟩ | ⟨go, rfl, hgW, hgo, hoc⟩
            · omega
            obtain ⟨y, hy⟩ : ∃ y, ys[k]? = some y := ⟨_, List.getElem?_eq_getElem (by rw [HM.out]; exact hlk)⟩
            have f3 : wr.cell? ⟨go, k, none⟩ = some (.int .i64 y) := hoc k y hy
            have hne : (y == z) = false := by
              rw [beq_eq_false_iff_ne]; rintro rfl; exact HSE.out hy
            have HY := Lib.hid hy
            have HOC := Lib.hid hoc
            clear hoc hy
            go_wp2
            go_quiet (fail)
            go_upto_region 9 with (fail)
            try simp only [World.drewN_drewN]
            generalize hwv : wr.drewN (nd + nq) = wv
            have hfv : Fr (fun _ => False) wr wv := hwv ▸ Fr.drewN _ wr (nd + nq)
            have m1 := (World.cell?_of_block (hfv.block rb hrl2 id)).trans k1
            have m2 := (World.cell?_of_block (hfv.block g hgl id)).trans e0
            have HFV := Lib.hid hfv
            have hWv : W.heap.size ≤ wv.heap.size := Nat.le_trans hsz0 hfv.size
            clear hwv
            have HT1 : Hid ((zv (ys.take k)).length = k) := Lib.hid (by rw [zv_len, List.length_take, HM.out]; omega)
            have HT0 : Hid (((some ⟨go, 0, none⟩) : Option Addr) = none → k = 0 ∧ cp = 0) := Lib.hid (fun e => nomatch e)
            have HT9 : Hid (∀ w' : World, Fr (fun _ => False) wv w' → ∀ ad, ((some ⟨go, 0, none⟩) : Option Addr) = some ad → ∀ j u, (zv (ys.take k))[j]? = some u → w'.cell? (ad.add j) = some u) := Lib.hid (fun w' hf ad e j u hj => by
              obtain rfl : (⟨go, 0, none⟩ : Addr) = ad := Option.some.inj e
              rw [off_add, Nat.zero_add]
              have hjk : j < k := by have := (List.getElem?_eq_some_iff.1 hj).1; rw [zv_len, List.length_take] at this; omega
              rw [zv, List.getElem?_map, List.getElem?_take_of_lt hjk] at hj
              obtain ⟨y, hy, rfl⟩ := Option.map_eq_some_iff.1 hj
              exact (World.cell?_of_block ((HFV.out.trans hf).block go hgo id)).trans (HOC.out j y hy))
            have hAc : ∀ w' : World, Fr (fun _ => False) wv w' → ∀ j u, (zv (ys.drop k))[j]? = some u → w'.cell? ((⟨go, k, none⟩ : Addr).add j) = some u := fun w' hf j u hj => by
              rw [off_add]
              rw [zv, List.getElem?_map, List.getElem?_drop] at hj
              obtain ⟨y, hy, rfl⟩ := Option.map_eq_some_iff.1 hj
              exact (World.cell?_of_block ((HFV.out.trans hf).block go hgo id)).trans (HOC.out _ y hy)
            have HD1 : Hid ((zv (ys.drop k)).length = m - k) := Lib.hid (by rw [zv_len, List.length_drop, HM.out])
            have HD0 : Hid ((some ⟨go, k, none⟩ : Option Addr) = none → m - k = 0 ∧ cp - k = 0) := Lib.hid (fun e => nomatch e)
            have HD2 : Hid (∀ w' : World, Fr (fun _ => False) wv w' → ∀ ad, (some ⟨go, k, none⟩ : Option Addr) = some ad → ∀ j u, (zv (ys.drop k))[j]? = some u → w'.cell? (ad.add j) = some u) := Lib.hid (fun w' hf ad e j u hj => by obtain rfl := Option.some.inj e; exact hAc w' hf j u hj)
            have bk : k ≤ cp := by omega
            clear hAc
            go_cut [6] (fun s6 wc => wc.ownsRow W.heap.size 3 1 s6 (k + 1) (zv (ys.take k ++ [z])) ∧ Fr (fun _ => False) wv wc)
            case first =>
              refine wp_region_held_drew (S := fun (w' : World) => w'.cell? ⟨rb, 1, none⟩ = some (.slice (some ⟨g, 0, none⟩) n cp0) ∧ w'.cell? ⟨g, i * 2, none⟩ = some (.int .i64 z)) (by kernel_rfl) ⟨m1, m2⟩ (fun hHeld => ?_)
              have hF0 : Fr (fun _ => False) wv wv.drew := Fr.drewN _ wv 1
              obtain ⟨w0, hw0⟩ : ∃ w, wv.drew = w := ⟨_, rfl⟩
              rw [hw0] at hF0 hHeld ⊢
              have HF0 := Lib.hid hF0
              have HWS := Lib.hid (Nat.le_trans hWv hF0.size)
              have hf0 : Fr (fun _ => False) w0 w0 := Fr.refl _ _
              have HSK : Hid (∀ w' : World, Fr (fun _ => False) w0 w' → w'.cell? ⟨rb, 1, none⟩ = some (.slice (some ⟨g, 0, none⟩) n cp0) ∧ w'.cell? ⟨g, i * 2, none⟩ = some (.int .i64 z)) := Lib.hid (fun w' hf => ⟨(World.cell?_of_block (hf.block rb (lt_of_cell hHeld.1) id)).trans hHeld.1, (World.cell?_of_block (hf.block g (lt_of_cell hHeld.2) id)).trans hHeld.2⟩)
              have HT2 : Hid (∀ w' : World, Fr (fun _ => False) w0 w' → ∀ ad, ((some ⟨go, 0, none⟩) : Option Addr) = some ad → ∀ j u, (zv (ys.take k))[j]? = some u → w'.cell? (ad.add j) = some u) := Lib.hid (fun w' hf ad e j u hj => HT9.out w' (HF0.out.trans hf) ad e j u hj)
              clear hw0 hF0 m1 m2 hfv
              refine wpAnyH_take (i := 1) (oi := _) (v := ?vn11) rfl (by kernel_rfl) (by kernel_rfl) (by kernel_rfl) (fun _ _ _ h => h) (Or.inl ⟨by rfl, ?yn11⟩) (by assumption) ?rn11
              case yn11 => intro w1 hSw; obtain ⟨s1, s2⟩ := hSw; go_simp; try with_reducible rfl
              try simp only [List.getElem_toArray, List.getElem_cons_zero, List.getElem_cons_succ, Act.put, List.setIfInBounds_toArray, List.set_cons_zero, List.set_cons_succ]
              refine wpAnyH_take (i := 2) (oi := _) (v := ?vn12) rfl (by kernel_rfl) (by kernel_rfl) (by kernel_rfl) (fun _ _ _ h => h) (Or.inl ⟨by rfl, ?yn12⟩) (by assumption) ?rn12
              case yn12 => intro w1 hSw; obtain ⟨s1, s2⟩ := hSw; go_simp; try with_reducible rfl
              try simp only [List.getElem_toArray, List.getElem_cons_zero, List.getElem_cons_succ, Act.put, List.setIfInBounds_toArray, List.set_cons_zero, List.set_cons_succ]
              refine wpAnyH_take (i := 3) (oi := _) (v := ?vn13) rfl (by kernel_rfl) (by kernel_rfl) (by kernel_rfl) (fun _ _ _ h => h) (Or.inl ⟨by rfl, ?yn13⟩) (by assumption) ?rn13
              case yn13 => intro w1 hSw; obtain ⟨s1, s2⟩ := hSw; go_simp; try with_reducible rfl
              try simp only [List.getElem_toArray, List.getElem_cons_zero, List.getElem_cons_succ, Act.put, List.setIfInBounds_toArray, List.set_cons_zero, List.set_cons_succ]
              refine wpAnyH_take (i := 5) (oi := _) (v := ?vn15) rfl (by kernel_rfl) (by kernel_rfl) (by kernel_rfl) (fun _ _ _ h => h) (Or.inl ⟨by rfl, ?yn15⟩) (by assumption) ?rn15
              case yn15 => intro w1 hSw; obtain ⟨s1, s2⟩ := hSw; go_simp; try with_reducible rfl
              try simp only [List.getElem_toArray, List.getElem_cons_zero, List.getElem_cons_succ, Act.put, List.setIfInBounds_toArray, List.set_cons_zero, List.set_cons_succ]
              refine wpAnyH_take (i := 6) (oi := _) (v := ?vn16) rfl (by kernel_rfl) (by kernel_rfl) (by kernel_rfl) (fun _ _ _ h => h) (Or.inl ⟨by rfl, ?yn16⟩) (by assumption) ?rn16
              case yn16 => intro w1 hSw; obtain ⟨s1, s2⟩ := hSw; go_simp; try with_reducible rfl
              try simp only [List.getElem_toArray, List.getElem_cons_zero, List.getElem_cons_succ, Act.put, List.setIfInBounds_toArray, List.set_cons_zero, List.set_cons_succ]
              refine wpAnyH_take (i := 7) (oi := _) (v := ?vn17) rfl (by kernel_rfl) (by kernel_rfl) (by kernel_rfl) (fun _ _ _ h => h) (Or.inl ⟨by rfl, ?yn17⟩) (by assumption) ?rn17
              case yn17 => intro w1 hSw; obtain ⟨s1, s2⟩ := hSw; go_simp; try with_reducible rfl
              try simp only [List.getElem_toArray, List.getElem_cons_zero, List.getElem_cons_succ, Act.put, List.setIfInBounds_toArray, List.set_cons_zero, List.set_cons_succ]
              refine wpAnyH_take (i := 8) (oi := _) (v := ?vn18) rfl (by kernel_rfl) (by kernel_rfl) (by kernel_rfl) (fun _ _ _ h => h) (Or.inl ⟨by rfl, ?yn18⟩) (by assumption) ?rn18
              case yn18 => intro w1 hSw; obtain ⟨s1, s2⟩ := hSw; go_simp; try with_reducible rfl
              try simp only [List.getElem_toArray, List.getElem_cons_zero, List.getElem_cons_succ, Act.put, List.setIfInBounds_toArray, List.set_cons_zero, List.set_cons_succ]
              refine wpAnyH_take (i := 9) (oi := _) (v := ?vn19) rfl (by kernel_rfl) (by kernel_rfl) (by kernel_rfl) (fun _ _ _ h => h) (Or.inl ⟨by rfl, ?yn19⟩) (by assumption) ?rn19
              case yn19 => intro w1 hSw; obtain ⟨s1, s2⟩ := hSw; go_simp; try with_reducible rfl
              try simp only [List.getElem_toArray, List.getElem_cons_zero, List.getElem_cons_succ, Act.put, List.setIfInBounds_toArray, List.set_cons_zero, List.set_cons_succ]
              refine wpAnyH_take (i := 10) (oi := _) (v := ?vn110) rfl (by kernel_rfl) (by kernel_rfl) (by kernel_rfl) (fun _ _ _ h => h) (Or.inl ⟨by rfl, ?yn110⟩) (by assumption) ?rn110
              case yn110 => intro w1 hSw; obtain ⟨s1, s2⟩ := hSw; go_simp; try with_reducible rfl
              try simp only [List.getElem_toArray, List.getElem_cons_zero, List.getElem_cons_succ, Act.put, List.setIfInBounds_toArray, List.set_cons_zero, List.set_cons_succ]
              refine wpAnyH_take (i := 11) (oi := _) (v := ?vn111) rfl (by kernel_rfl) (by kernel_rfl) (by kernel_rfl) (fun _ _ _ h => h) (Or.inl ⟨by rfl, ?yn111⟩) (by assumption) ?rn111
              case yn111 => intro w1 hSw; obtain ⟨s1, s2⟩ := hSw; go_simp; try with_reducible rfl
              try simp only [List.getElem_toArray, List.getElem_cons_zero, List.getElem_cons_succ, Act.put, List.setIfInBounds_toArray, List.set_cons_zero, List.set_cons_succ]
              refine wpAnyH_take (i := 12) (oi := _) (v := ?vn112) rfl (by kernel_rfl) (by kernel_rfl) (by kernel_rfl) (fun _ _ _ h => h) (Or.inl ⟨by rfl, ?yn112⟩) (by assumption) ?rn112
              case yn112 => intro w1 hSw; obtain ⟨s1, s2⟩ := hSw; go_simp; try with_reducible rfl
              try simp only [List.getElem_toArray, List.getElem_cons_zero, List.getElem_cons_succ, Act.put, List.setIfInBounds_toArray, List.set_cons_zero, List.set_cons_succ]
              refine wpAnyH_ready (rs := [0, 13]) (by kernel_rfl) (by simp) ?_
              refine AllReadyH.cons (o := _) rfl (fun K hK => ?_) (AllReadyH.cons (o := _) rfl (fun K hK => ?_) AllReadyH.nil)
              · rw [if_pos (by rfl)]
                try simp only [List.getElem_toArray, List.getElem_cons_zero, List.getElem_cons_succ]
                go_simp
                have hf1 : Fr (fun _ => False) w0 (w0.alloc (.cells #[] 3)) := hf0.trans (Fr.alloc _ _ _)
                refine hK.out _ _ (HSK.out _ hf1) (fun _ => ?_)
                clear hK K
                try simp only [List.getElem_toArray, List.getElem_cons_zero, List.getElem_cons_succ, Act.put, List.setIfInBounds_toArray, List.set_cons_zero, List.set_cons_succ]
                have own0 := owns_empty3 w0
                refine wpAnyH_ready (rs := [4, 13]) (by kernel_rfl) (by simp) ?_
                refine AllReadyH.cons (o := _) rfl (fun K hK => ?_) (AllReadyH.cons (o := _) rfl (fun K hK => ?_) AllReadyH.nil)
                · obtain ⟨v1, w1, hrun1, hown1, hg1⟩ := runI_app (w0.alloc (.cells #[] 3)) own0 (some ⟨go, 0, none⟩) k cp (zv (ys.take k)) HT1.out HT0.out (fun ad e j u hj => HT2.out _ hf1 ad e j u hj) (zv_one _) (by omega) (by simp)
                  have hf2 : Fr (fun _ => False) w0 w1 := hf1.by_own hg1 (fun j e => by simp [Value.ownBlock] at e; omega)
                  rw [if_pos (by rfl)]
                  try simp only [List.getElem_toArray, List.getElem_cons_zero, List.getElem_cons_succ]
                  refine upon_append rfl rfl rfl hrun1 ?_
                  refine hK.out _ _ (HSK.out _ hf2) (fun _ => ?_)
                  clear hK K
                  try simp only [List.getElem_toArray, List.getElem_cons_zero, List.getElem_cons_succ, Act.put, List.setIfInBounds_toArray, List.set_cons_zero, List.set_cons_succ]
                  refine wpAnyH_ready (rs := [13]) (by kernel_rfl) (by simp) ?_
                  refine AllReadyH.cons (o := _) rfl (fun K hK => ?_) AllReadyH.nil
                  rw [if_pos (by rfl)]
                  try simp only [List.getElem_toArray, List.getElem_cons_zero, List.getElem_cons_succ]
                  go_simp
                  have hf3 : Fr (fun _ => False) w0 (w1.alloc (.cells #[.int .i64 z] 3)) := hf2.trans (Fr.alloc _ _ _)
                  refine hK.out _ _ (HSK.out _ hf3) (fun _ => ?_)
                  clear hK K
                  try simp only [List.getElem_toArray, List.getElem_cons_zero, List.getElem_cons_succ, Act.put, List.setIfInBounds_toArray, List.set_cons_zero, List.set_cons_succ]
                  have hx := cell_one3 w1 z
                  have own1 := hown1.alloc (.cells #[.int .i64 z] 3)
                  have hb0 : w0.heap.size ≤ w0.heap.size := Nat.le_refl _
                  have hb1 : w0.heap.size ≤ (w1.alloc (.cells #[.int .i64 z] 3)).heap.size := hf3.size
                  refine wpAnyH_ready (rs := [14]) (by kernel_rfl) (by simp) ?_
                  refine AllReadyH.cons (o := _) rfl (fun K hK => ?_) AllReadyH.nil
                  obtain ⟨v2, w2, hrun2, hown2, hg2⟩ := runI_app (w1.alloc (.cells #[.int .i64 z] 3)) own1 (some ⟨w1.heap.size, 0, none⟩) 1 1 [.int .i64 z] rfl (fun e => nomatch e) (fun ad e j u hj => by obtain rfl := Option.some.inj e; exact hx j u hj) (fun u hu => by rw [List.mem_singleton.1 hu]; rfl) (by omega) hb1
                  have hf4 : Fr (fun _ => False) w0 w2 := hf3.by_own hg2 (fun j e => Nat.le_trans hb0 (hown1.lt j e).1)
                  rw [if_pos (by rfl)]
                  try simp only [List.getElem_toArray, List.getElem_cons_zero, List.getElem_cons_succ]
                  refine upon_append rfl rfl rfl hrun2 ?_
                  refine hK.out _ _ (HSK.out _ hf4) (fun _ => ?_)
                  clear hK K
                  try simp only [List.getElem_toArray, List.getElem_cons_zero, List.getElem_cons_succ, Act.put, List.setIfInBounds_toArray, List.set_cons_zero, List.set_cons_succ]
                  refine wpAnyH_take (i := 15) (oi := _) (v := ?van115) rfl (by kernel_rfl) (by kernel_rfl) (by kernel_rfl) (fun _ _ _ h => h) (Or.inl ⟨by rfl, ?yan115⟩) (by assumption) ?ran115
                  case yan115 => intro w1 hSw; go_simp; try with_reducible rfl
                  try simp only [List.getElem_toArray, List.getElem_cons_zero, List.getElem_cons_succ, Act.put, List.setIfInBounds_toArray, List.set_cons_zero, List.set_cons_succ]
                  refine wpAnyH_done (by kernel_rfl) ?_ _
                  have HOWN := Lib.hid (ownsG_base hown2 hb0)
                  have HFF := Lib.hid hf4
                  clear hrun1 hrun2 hown1 hown2 hg1 hg2
                  go_wp2
                  go_meet
                  refine ⟨?_, HF0.out.trans HFF.out⟩
                  have hx := HOWN.out
                  rw [Nat.zero_add, List.nil_append, ← zv_snoc] at hx
                  exact ownsG_base hx HWS.out
                · rw [if_pos (by rfl)]
                  try simp only [List.getElem_toArray, List.getElem_cons_zero, List.getElem_cons_succ]
                  go_simp
                  have hf2 : Fr (fun _ => False) w0 ((w0.alloc (.cells #[] 3)).alloc (.cells #[.int .i64 z] 3)) := hf1.trans (Fr.alloc _ _ _)
                  refine hK.out _ _ (HSK.out _ hf2) (fun _ => ?_)
                  clear hK K
                  try simp only [List.getElem_toArray, List.getElem_cons_zero, List.getElem_cons_succ, Act.put, List.setIfInBounds_toArray, List.set_cons_zero, List.set_cons_succ]
                  have hx := cell_one3 (w0.alloc (.cells #[] 3)) z
                  rw [World.size_alloc] at hx
                  have own0x := own0.alloc (.cells #[.int .i64 z] 3)
                  refine wpAnyH_ready (rs := [4]) (by kernel_rfl) (by simp) ?_
                  refine AllReadyH.cons (o := _) rfl (fun K hK => ?_) AllReadyH.nil
                  obtain ⟨v1, w1, hrun1, hown1, hg1⟩ := runI_app ((w0.alloc (.cells #[] 3)).alloc (.cells #[.int .i64 z] 3)) own0x (some ⟨go, 0, none⟩) k cp (zv (ys.take k)) HT1.out HT0.out (fun ad e j u hj => HT2.out _ hf2 ad e j u hj) (zv_one _) (by omega) (by simp; omega)
                  have hf3 : Fr (fun _ => False) w0 w1 := hf2.by_own hg1 (fun j e => by simp [Value.ownBlock] at e; omega)
                  rw [if_pos (by rfl)]
                  try simp only [List.getElem_toArray, List.getElem_cons_zero, List.getElem_cons_succ]
                  refine upon_append rfl rfl rfl hrun1 ?_
                  refine hK.out _ _ (HSK.out _ hf3) (fun _ => ?_)
                  clear hK K
                  try simp only [List.getElem_toArray, List.getElem_cons_zero, List.getElem_cons_succ, Act.put, List.setIfInBounds_toArray, List.set_cons_zero, List.set_cons_succ]
                  have hx1 : ∀ j u, [Value.int .i64 z][j]? = some u → w1.cell? ((⟨w0.heap.size + 1, 0, none⟩ : Addr).add j) = some u := fun j u hj => hg1.cell (hx j u hj) (by rw [add_block]; simp [Value.ownBlock])
                  have hb0 : w0.heap.size ≤ w0.heap.size := Nat.le_refl _
                  refine wpAnyH_ready (rs := [14]) (by kernel_rfl) (by simp) ?_
                  refine AllReadyH.cons (o := _) rfl (fun K hK => ?_) AllReadyH.nil
                  obtain ⟨v2, w2, hrun2, hown2, hg2⟩ := runI_app w1 hown1 (some ⟨w0.heap.size + 1, 0, none⟩) 1 1 [.int .i64 z] rfl (fun e => nomatch e) (fun ad e j u hj => by obtain rfl := Option.some.inj e; exact hx1 j u hj) (fun u hu => by rw [List.mem_singleton.1 hu]; rfl) (by omega) hf3.size
                  have hf4 : Fr (fun _ => False) w0 w2 := hf3.by_own hg2 (fun j e => Nat.le_trans hb0 (hown1.lt j e).1)
                  rw [if_pos (by rfl)]
                  try simp only [List.getElem_toArray, List.getElem_cons_zero, List.getElem_cons_succ]
                  refine upon_append rfl rfl rfl hrun2 ?_
                  refine hK.out _ _ (HSK.out _ hf4) (fun _ => ?_)
                  clear hK K
                  try simp only [List.getElem_toArray, List.getElem_cons_zero, List.getElem_cons_succ, Act.put, List.setIfInBounds_toArray, List.set_cons_zero, List.set_cons_succ]
                  refine wpAnyH_take (i := 15) (oi := _) (v := ?vbn115) rfl (by kernel_rfl) (by kernel_rfl) (by kernel_rfl) (fun _ _ _ h => h) (Or.inl ⟨by rfl, ?ybn115⟩) (by assumption) ?rbn115
                  case ybn115 => intro w1 hSw; go_simp; try with_reducible rfl
                  try simp only [List.getElem_toArray, List.getElem_cons_zero, List.getElem_cons_succ, Act.put, List.setIfInBounds_toArray, List.set_cons_zero, List.set_cons_succ]
                  refine wpAnyH_done (by kernel_rfl) ?_ _
                  have HOWN := Lib.hid (ownsG_base hown2 hb0)
                  have HFF := Lib.hid hf4
                  clear hrun1 hrun2 hown1 hown2 hg1 hg2
                  go_wp2
                  go_meet
                  refine ⟨?_, HF0.out.trans HFF.out⟩
                  have hx := HOWN.out
                  rw [Nat.zero_add, List.nil_append, ← zv_snoc] at hx
                  exact ownsG_base hx HWS.out
              · rw [if_pos (by rfl)]
                try simp only [List.getElem_toArray, List.getElem_cons_zero, List.getElem_cons_succ]
                go_simp
                have hf1 : Fr (fun _ => False) w0 (w0.alloc (.cells #[.int .i64 z] 3)) := hf0.trans (Fr.alloc _ _ _)
                refine hK.out _ _ (HSK.out _ hf1) (fun _ => ?_)
                clear hK K
                try simp only [List.getElem_toArray, List.getElem_cons_zero, List.getElem_cons_succ, Act.put, List.setIfInBounds_toArray, List.set_cons_zero, List.set_cons_succ]
                have hx := cell_one3 w0 z
                refine wpAnyH_ready (rs := [0]) (by kernel_rfl) (by simp) ?_
                refine AllReadyH.cons (o := _) rfl (fun K hK => ?_) AllReadyH.nil
                rw [if_pos (by rfl)]
                try simp only [List.getElem_toArray, List.getElem_cons_zero, List.getElem_cons_succ]
                go_simp
                have hf2 : Fr (fun _ => False) w0 ((w0.alloc (.cells #[.int .i64 z] 3)).alloc (.cells #[] 3)) := hf1.trans (Fr.alloc _ _ _)
                refine hK.out _ _ (HSK.out _ hf2) (fun _ => ?_)
                clear hK K
                try simp only [List.getElem_toArray, List.getElem_cons_zero, List.getElem_cons_succ, Act.put, List.setIfInBounds_toArray, List.set_cons_zero, List.set_cons_succ]
                have own0 := owns_empty3 (w0.alloc (.cells #[.int .i64 z] 3))
                rw [World.size_alloc] at own0
                have hx0 := cell_alloc3 hx (.cells #[] 3)
                refine wpAnyH_ready (rs := [4]) (by kernel_rfl) (by simp) ?_
                refine AllReadyH.cons (o := _) rfl (fun K hK => ?_) AllReadyH.nil
                obtain ⟨v1, w1, hrun1, hown1, hg1⟩ := runI_app ((w0.alloc (.cells #[.int .i64 z] 3)).alloc (.cells #[] 3)) own0 (some ⟨go, 0, none⟩) k cp (zv (ys.take k)) HT1.out HT0.out (fun ad e j u hj => HT2.out _ hf2 ad e j u hj) (zv_one _) (by omega) (by simp)
                have hf3 : Fr (fun _ => False) w0 w1 := hf2.by_own hg1 (fun j e => by simp [Value.ownBlock] at e; omega)
                rw [if_pos (by rfl)]
                try simp only [List.getElem_toArray, List.getElem_cons_zero, List.getElem_cons_succ]
                refine upon_append rfl rfl rfl hrun1 ?_
                refine hK.out _ _ (HSK.out _ hf3) (fun _ => ?_)
                clear hK K
                try simp only [List.getElem_toArray, List.getElem_cons_zero, List.getElem_cons_succ, Act.put, List.setIfInBounds_toArray, List.set_cons_zero, List.set_cons_succ]
                have hx1 : ∀ j u, [Value.int .i64 z][j]? = some u → w1.cell? ((⟨w0.heap.size, 0, none⟩ : Addr).add j) = some u := fun j u hj => hg1.cell (hx0 j u hj) (by rw [add_block]; simp [Value.ownBlock])
                have hb0 : w0.heap.size ≤ w0.heap.size + 1 := Nat.le_succ _
                refine wpAnyH_ready (rs := [14]) (by kernel_rfl) (by simp) ?_
                refine AllReadyH.cons (o := _) rfl (fun K hK => ?_) AllReadyH.nil
                obtain ⟨v2, w2, hrun2, hown2, hg2⟩ := runI_app w1 hown1 (some ⟨w0.heap.size, 0, none⟩) 1 1 [.int .i64 z] rfl (fun e => nomatch e) (fun ad e j u hj => by obtain rfl := Option.some.inj e; exact hx1 j u hj) (fun u hu => by rw [List.mem_singleton.1 hu]; rfl) (by omega) (Nat.le_trans (by simp) hg1.size)
                have hf4 : Fr (fun _ => False) w0 w2 := hf3.by_own hg2 (fun j e => Nat.le_trans hb0 (hown1.lt j e).1)
                rw [if_pos (by rfl)]
                try simp only [List.getElem_toArray, List.getElem_cons_zero, List.getElem_cons_succ]
                refine upon_append rfl rfl rfl hrun2 ?_
                refine hK.out _ _ (HSK.out _ hf4) (fun _ => ?_)
                clear hK K
                try simp only [List.getElem_toArray, List.getElem_cons_zero, List.getElem_cons_succ, Act.put, List.setIfInBounds_toArray, List.set_cons_zero, List.set_cons_succ]
                refine wpAnyH_take (i := 15) (oi := _) (v := ?vcn115) rfl (by kernel_rfl) (by kernel_rfl) (by kernel_rfl) (fun _ _ _ h => h) (Or.inl ⟨by rfl, ?ycn115⟩) (by assumption) ?rcn115
                case ycn115 => intro w1 hSw; go_simp; try with_reducible rfl
                try simp only [List.getElem_toArray, List.getElem_cons_zero, List.getElem_cons_succ, Act.put, List.setIfInBounds_toArray, List.set_cons_zero, List.set_cons_succ]
                refine wpAnyH_done (by kernel_rfl) ?_ _
                have HOWN := Lib.hid (ownsG_base hown2 hb0)
                have HFF := Lib.hid hf4
                clear hrun1 hrun2 hown1 hown2 hg1 hg2
                go_wp2
                go_meet
                refine ⟨?_, HF0.out.trans HFF.out⟩
                have hx := HOWN.out
                rw [Nat.zero_add, List.nil_append, ← zv_snoc] at hx
                exact ownsG_base hx HWS.out
            case rest =>
              obtain ⟨hoc6, hfc⟩ := hcut
              obtain ⟨ao6, q6, rfl⟩ : ∃ ao6 q6, u6 = .slice ao6 (k + 1) q6 := owns_slice3 hoc6
              obtain ⟨v3, w3, hrun3, hown3, hg3⟩ := runI_app wc hoc6 (some ⟨go, k, none⟩) (m - k) (cp - k) (zv (ys.drop k)) HD1.out HD0.out (fun ad e j u hj => HD2.out wc hfc ad e j u hj) (zv_one _) (by omega) (Nat.le_trans hWv hfc.size)
              have hf3 : Fr (fun _ => False) W w3 := ⟨hg3.os.trans (hfc.os.trans (HFV.out.os.trans HFR.out.os)), hg3.tape.trans (hfc.tape.trans (HFV.out.tape.trans HFR.out.tape)), hg3.output.trans (hfc.output.trans (HFV.out.output.trans HFR.out.output)), Nat.le_trans hWv (Nat.le_trans hfc.size hg3.size), fun j hj _ => (hg3.block j (Nat.lt_of_lt_of_le hj (Nat.le_trans hWv hfc.size)) (fun e => by have := (hoc6.lt j e.symm).1; omega)).trans ((hfc.block j (Nat.lt_of_lt_of_le hj hWv) id).trans ((HFV.out.block j (Nat.lt_of_lt_of_le hj hsz0) id).trans (HFR.out.block j hj id)))⟩
              have HO3 := Lib.hid hown3
              have HF3 := Lib.hid hf3
              have HNP := Lib.hid (HNA.out.put HQ.out (fun j y hj hy => by rw [HZ.out]; exact HLO.out j y hj hy) (k := k) (fun y hy => by rw [HZ.out]; exact HGT.out y hy))
              have HLY : Hid ((ys.take k ++ [z] ++ ys.drop k).length = k + 1 + (m - k)) := Lib.hid (by rw [List.length_append, List.length_append, List.length_take, List.length_drop, HM.out]; simp <;> omega)
              clear hoc6 hfc hown3 hg3 hf3 hfv
              go_wp2_with (first | (at_builtin; refine wpl_app rfl _ _ rfl rfl rfl hrun3 ?_) | fail)
              go_roundw
              case rel =>
                refine ⟨i + 1, ys.take k ++ [z] ++ ys.drop k, by omega, by go_num, ?_, by have := HNP.out; rw [HZ.out] at this; exact this, by rw [HLY.out]; omega, HF3.out⟩
                rw [HLY.out, zv_app]
                exact HO3.out
              case measure => simp [intOf]; omega
          · obtain rfl : k = m := by omega
            have t0 : decide ((k : Int) < k) = false := decide_eq_false (by omega)
            go_wp2
            rcases HFM.out with ⟨rfl, h0, rfl⟩ | ⟨go, rfl, hgW, hgo, hoc⟩
            · subst h0
              go_quiet (fail)
              go_upto_region 9 with (fail)
              try simp only [World.drewN_drewN]
              generalize hwv : wr.drewN (nd + nq) = wv
              have hfv : Fr (fun _ => False) wr wv := hwv ▸ Fr.drewN _ wr (nd + nq)
              have m1 := (World.cell?_of_block (hfv.block rb hrl2 id)).trans k1
              have m2 := (World.cell?_of_block (hfv.block g hgl id)).trans e0
              have HFV := Lib.hid hfv
              have hWv : W.heap.size ≤ wv.heap.size := Nat.le_trans hsz0 hfv.size
              clear hwv
              have HT1 : Hid ((zv (ys.take 0)).length = 0) := Lib.hid rfl
              have HT0 : Hid ((none : Option Addr) = none → 0 = 0 ∧ 0 = 0) := Lib.hid (fun _ => ⟨rfl, rfl⟩)
              have HT9 : Hid (∀ w' : World, Fr (fun _ => False) wv w' → ∀ ad, (none : Option Addr) = some ad → ∀ j u, (zv (ys.take 0))[j]? = some u → w'.cell? (ad.add j) = some u) := Lib.hid (fun w' hf ad e => nomatch e)
              have HD1 : Hid ((zv (ys.drop 0)).length = 0) := Lib.hid (by rw [zv_len, List.length_drop, HM.out])
              have HD0 : Hid ((none : Option Addr) = none → 0 = 0 ∧ 0 = 0) := Lib.hid (fun _ => ⟨rfl, rfl⟩)
              have HD2 : Hid (∀ w' : World, Fr (fun _ => False) wv w' → ∀ ad, (none : Option Addr) = some ad → ∀ j u, (zv (ys.drop 0))[j]? = some u → w'.cell? (ad.add j) = some u) := Lib.hid (fun w' hf ad e => nomatch e)
              go_cut [6] (fun s6 wc => wc.ownsRow W.heap.size 3 1 s6 (0 + 1) (zv (ys.take 0 ++ [z])) ∧ Fr (fun _ => False) wv wc)
              case first =>
                refine wp_region_held_drew (S := fun (w' : World) => w'.cell? ⟨rb, 1, none⟩ = some (.slice (some ⟨g, 0, none⟩) n cp0) ∧ w'.cell? ⟨g, i * 2, none⟩ = some (.int .i64 z)) (by kernel_rfl) ⟨m1, m2⟩ (fun hHeld => ?_)
                have hF0 : Fr (fun _ => False) wv wv.drew := Fr.drewN _ wv 1
                obtain ⟨w0, hw0⟩ : ∃ w, wv.drew = w := ⟨_, rfl⟩
                rw [hw0] at hF0 hHeld ⊢
                have HF0 := Lib.hid hF0
                have HWS := Lib.hid (Nat.le_trans hWv hF0.size)
                have hf0 : Fr (fun _ => False) w0 w0 := Fr.refl _ _
                have HSK : Hid (∀ w' : World, Fr (fun _ => False) w0 w' → w'.cell? ⟨rb, 1, none⟩ = some (.slice (some ⟨g, 0, none⟩) n cp0) ∧ w'.cell? ⟨g, i * 2, none⟩ = some (.int .i64 z)) := Lib.hid (fun w' hf => ⟨(World.cell?_of_block (hf.block rb (lt_of_cell hHeld.1) id)).trans hHeld.1, (World.cell?_of_block (hf.block g (lt_of_cell hHeld.2) id)).trans hHeld.2⟩)
                have HT2 : Hid (∀ w' : World, Fr (fun _ => False) w0 w' → ∀ ad, (none : Option Addr) = some ad → ∀ j u, (zv (ys.take 0))[j]? = some u → w'.cell? (ad.add j) = some u) := Lib.hid (fun w' hf ad e j u hj => HT9.out w' (HF0.out.trans hf) ad e j u hj)
                clear hw0 hF0 m1 m2 hfv
                refine wpAnyH_take (i := 1) (oi := _) (v := ?vn21) rfl (by kernel_rfl) (by kernel_rfl) (by kernel_rfl) (fun _ _ _ h => h) (Or.inl ⟨by rfl, ?yn21⟩) (by assumption) ?rn21
                case yn21 => intro w1 hSw; obtain ⟨s1, s2⟩ := hSw; go_simp; try with_reducible rfl
                try simp only [List.getElem_toArray, List.getElem_cons_zero, List.getElem_cons_succ, Act.put, List.setIfInBounds_toArray, List.set_cons_zero, List.set_cons_succ]
                refine wpAnyH_take (i := 2) (oi := _) (v := ?vn22) rfl (by kernel_rfl) (by kernel_rfl) (by kernel_rfl) (fun _ _ _ h => h) (Or.inl ⟨by rfl, ?yn22⟩) (by assumption) ?rn22
                case yn22 => intro w1 hSw; obtain ⟨s1, s2⟩ := hSw; go_simp; try with_reducible rfl
                try simp only [List.getElem_toArray, List.getElem_cons_zero, List.getElem_cons_succ, Act.put, List.setIfInBounds_toArray, List.set_cons_zero, List.set_cons_succ]
                refine wpAnyH_take (i := 3) (oi := _) (v := ?vn23) rfl (by kernel_rfl) (by kernel_rfl) (by kernel_rfl) (fun _ _ _ h => h) (Or.inl ⟨by rfl, ?yn23⟩) (by assumption) ?rn23
                case yn23 => intro w1 hSw; obtain ⟨s1, s2⟩ := hSw; go_simp; try with_reducible rfl
                try simp only [List.getElem_toArray, List.getElem_cons_zero, List.getElem_cons_succ, Act.put, List.setIfInBounds_toArray, List.set_cons_zero, List.set_cons_succ]
                refine wpAnyH_take (i := 5) (oi := _) (v := ?vn25) rfl (by kernel_rfl) (by kernel_rfl) (by kernel_rfl) (fun _ _ _ h => h) (Or.inl ⟨by rfl, ?yn25⟩) (by assumption) ?rn25
                case yn25 => intro w1 hSw; obtain ⟨s1, s2⟩ := hSw; go_simp; try with_reducible rfl
                try simp only [List.getElem_toArray, List.getElem_cons_zero, List.getElem_cons_succ, Act.put, List.setIfInBounds_toArray, List.set_cons_zero, List.set_cons_succ]
                refine wpAnyH_take (i := 6) (oi := _) (v := ?vn26) rfl (by kernel_rfl) (by kernel_rfl) (by kernel_rfl) (fun _ _ _ h => h) (Or.inl ⟨by rfl, ?yn26⟩) (by assumption) ?rn26
                case yn26 => intro w1 hSw; obtain ⟨s1, s2⟩ := hSw; go_simp; try with_reducible rfl
                try simp only [List.getElem_toArray, List.getElem_cons_zero, List.getElem_cons_succ, Act.put, List.setIfInBounds_toArray, List.set_cons_zero, List.set_cons_succ]
                refine wpAnyH_take (i := 7) (oi := _) (v := ?vn27) rfl (by kernel_rfl) (by kernel_rfl) (by kernel_rfl) (fun _ _ _ h => h) (Or.inl ⟨by rfl, ?yn27⟩) (by assumption) ?rn27
                case yn27 => intro w1 hSw; obtain ⟨s1, s2⟩ := hSw; go_simp; try with_reducible rfl
                try simp only [List.getElem_toArray, List.getElem_cons_zero, List.getElem_cons_succ, Act.put, List.setIfInBounds_toArray, List.set_cons_zero, List.set_cons_succ]
                refine wpAnyH_take (i := 8) (oi := _) (v := ?vn28) rfl (by kernel_rfl) (by kernel_rfl) (by kernel_rfl) (fun _ _ _ h => h) (Or.inl ⟨by rfl, ?yn28⟩) (by assumption) ?rn28
                case yn28 => intro w1 hSw; obtain ⟨s1, s2⟩ := hSw; go_simp; try with_reducible rfl
                try simp only [List.getElem_toArray, List.getElem_cons_zero, List.getElem_cons_succ, Act.put, List.setIfInBounds_toArray, List.set_cons_zero, List.set_cons_succ]
                refine wpAnyH_take (i := 9) (oi := _) (v := ?vn29) rfl (by kernel_rfl) (by kernel_rfl) (by kernel_rfl) (fun _ _ _ h => h) (Or.inl ⟨by rfl, ?yn29⟩) (by assumption) ?rn29
                case yn29 => intro w1 hSw; obtain ⟨s1, s2⟩ := hSw; go_simp; try with_reducible rfl
                try simp only [List.getElem_toArray, List.getElem_cons_zero, List.getElem_cons_succ, Act.put, List.setIfInBounds_toArray, List.set_cons_zero, List.set_cons_succ]
                refine wpAnyH_take (i := 10) (oi := _) (v := ?vn210) rfl (by kernel_rfl) (by kernel_rfl) (by kernel_rfl) (fun _ _ _ h => h) (Or.inl ⟨by rfl, ?yn210⟩) (by assumption) ?rn210
                case yn210 => intro w1 hSw; obtain ⟨s1, s2⟩ := hSw; go_simp; try with_reducible rfl
                try simp only [List.getElem_toArray, List.getElem_cons_zero, List.getElem_cons_succ, Act.put, List.setIfInBounds_toArray, List.set_cons_zero, List.set_cons_succ]
                refine wpAnyH_take (i := 11) (oi := _) (v := ?vn211) rfl (by kernel_rfl) (by kernel_rfl) (by kernel_rfl) (fun _ _ _ h => h) (Or.inl ⟨by rfl, ?yn211⟩) (by assumption) ?rn211
                case yn211 => intro w1 hSw; obtain ⟨s1, s2⟩ := hSw; go_simp; try with_reducible rfl
                try simp only [List.getElem_toArray, List.getElem_cons_zero, List.getElem_cons_succ, Act.put, List.setIfInBounds_toArray, List.set_cons_zero, List.set_cons_succ]
                refine wpAnyH_take (i := 12) (oi := _) (v := ?vn212) rfl (by kernel_rfl) (by kernel_rfl) (by kernel_rfl) (fun _ _ _ h => h) (Or.inl ⟨by rfl, ?yn212⟩) (by assumption) ?rn212
                case yn212 => intro w1 hSw; obtain ⟨s1, s2⟩ := hSw; go_simp; try with_reducible rfl
                try simp only [List.getElem_toArray, List.getElem_cons_zero, List.getElem_cons_succ, Act.put, List.setIfInBounds_toArray, List.set_cons_zero, List.set_cons_succ]
                refine wpAnyH_ready (rs := [0, 13]) (by kernel_rfl) (by simp) ?_
                refine AllReadyH.cons (o := _) rfl (fun K hK => ?_) (AllReadyH.cons (o := _) rfl (fun K hK => ?_) AllReadyH.nil)
                · rw [if_pos (by rfl)]
                  try simp only [List.getElem_toArray, List.getElem_cons_zero, List.getElem_cons_succ]
                  go_simp
                  have hf1 : Fr (fun _ => False) w0 (w0.alloc (.cells #[] 3)) := hf0.trans (Fr.alloc _ _ _)
                  refine hK.out _ _ (HSK.out _ hf1) (fun _ => ?_)
                  clear hK K
                  try simp only [List.getElem_toArray, List.getElem_cons_zero, List.getElem_cons_succ, Act.put, List.setIfInBounds_toArray, List.set_cons_zero, List.set_cons_succ]
                  have own0 := owns_empty3 w0
                  refine wpAnyH_ready (rs := [4, 13]) (by kernel_rfl) (by simp) ?_
                  refine AllReadyH.cons (o := _) rfl (fun K hK => ?_) (AllReadyH.cons (o := _) rfl (fun K hK => ?_) AllReadyH.nil)
                  · obtain ⟨v1, w1, hrun1, hown1, hg1⟩ := runI_app (w0.alloc (.cells #[] 3)) own0 none 0 0 (zv (ys.take 0)) HT1.out HT0.out (fun ad e j u hj => HT2.out _ hf1 ad e j u hj) (zv_one _) (by omega) (by simp)
                    have hf2 : Fr (fun _ => False) w0 w1 := hf1.by_own hg1 (fun j e => by simp [Value.ownBlock] at e; omega)
                    rw [if_pos (by rfl)]
                    try simp only [List.getElem_toArray, List.getElem_cons_zero, List.getElem_cons_succ]
                    refine upon_append rfl rfl rfl hrun1 ?_
                    refine hK.out _ _ (HSK.out _ hf2) (fun _ => ?_)
                    clear hK K
                    try simp only [List.getElem_toArray, List.getElem_cons_zero, List.getElem_cons_succ, Act.put, List.setIfInBounds_toArray, List.set_cons_zero, List.set_cons_succ]
                    refine wpAnyH_ready (rs := [13]) (by kernel_rfl) (by simp) ?_
                    refine AllReadyH.cons (o := _) rfl (fun K hK => ?_) AllReadyH.nil
                    rw [if_pos (by rfl)]
                    try simp only [List.getElem_toArray, List.getElem_cons_zero, List.getElem_cons_succ]
                    go_simp
                    have hf3 : Fr (fun _ => False) w0 (w1.alloc (.cells #[.int .i64 z] 3)) := hf2.trans (Fr.alloc _ _ _)
                    refine hK.out _ _ (HSK.out _ hf3) (fun _ => ?_)
                    clear hK K
                    try simp only [List.getElem_toArray, List.getElem_cons_zero, List.getElem_cons_succ, Act.put, List.setIfInBounds_toArray, List.set_cons_zero, List.set_cons_succ]
                    have hx := cell_one3 w1 z
                    have own1 := hown1.alloc (.cells #[.int .i64 z] 3)
                    have hb0 : w0.heap.size ≤ w0.heap.size := Nat.le_refl _
                    have hb1 : w0.heap.size ≤ (w1.alloc (.cells #[.int .i64 z] 3)).heap.size := hf3.size
                    refine wpAnyH_ready (rs := [14]) (by kernel_rfl) (by simp) ?_
                    refine AllReadyH.cons (o := _) rfl (fun K hK => ?_) AllReadyH.nil
                    obtain ⟨v2, w2, hrun2, hown2, hg2⟩ := runI_app (w1.alloc (.cells #[.int .i64 z] 3)) own1 (some ⟨w1.heap.size, 0, none⟩) 1 1 [.int .i64 z] rfl (fun e => nomatch e) (fun ad e j u hj => by obtain rfl := Option.some.inj e; exact hx j u hj) (fun u hu => by rw [List.mem_singleton.1 hu]; rfl) (by omega) hb1
                    have hf4 : Fr (fun _ => False) w0 w2 := hf3.by_own hg2 (fun j e => Nat.le_trans hb0 (hown1.lt j e).1)
                    rw [if_pos (by rfl)]
                    try simp only [List.getElem_toArray, List.getElem_cons_zero, List.getElem_cons_succ]
                    refine upon_append rfl rfl rfl hrun2 ?_
                    refine hK.out _ _ (HSK.out _ hf4) (fun _ => ?_)
                    clear hK K
                    try simp only [List.getElem_toArray, List.getElem_cons_zero, List.getElem_cons_succ, Act.put, List.setIfInBounds_toArray, List.set_cons_zero, List.set_cons_succ]
                    refine wpAnyH_take (i := 15) (oi := _) (v := ?van215) rfl (by kernel_rfl) (by kernel_rfl) (by kernel_rfl) (fun _ _ _ h => h) (Or.inl ⟨by rfl, ?yan215⟩) (by assumption) ?ran215
                    case yan215 => intro w1 hSw; go_simp; try with_reducible rfl
                    try simp only [List.getElem_toArray, List.getElem_cons_zero, List.getElem_cons_succ, Act.put, List.setIfInBounds_toArray, List.set_cons_zero, List.set_cons_succ]
                    refine wpAnyH_done (by kernel_rfl) ?_ _
                    have HOWN := Lib.hid (ownsG_base hown2 hb0)
                    have HFF := Lib.hid hf4
                    clear hrun1 hrun2 hown1 hown2 hg1 hg2
                    go_wp2
                    go_meet
                    refine ⟨?_, HF0.out.trans HFF.out⟩
                    have hx := HOWN.out
                    rw [Nat.zero_add, List.nil_append, ← zv_snoc] at hx
                    exact ownsG_base hx HWS.out
                  · rw [if_pos (by rfl)]
                    try simp only [List.getElem_toArray, List.getElem_cons_zero, List.getElem_cons_succ]
                    go_simp
                    have hf2 : Fr (fun _ => False) w0 ((w0.alloc (.cells #[] 3)).alloc (.cells #[.int .i64 z] 3)) := hf1.trans (Fr.alloc _ _ _)
                    refine hK.out _ _ (HSK.out _ hf2) (fun _ => ?_)
                    clear hK K
                    try simp only [List.getElem_toArray, List.getElem_cons_zero, List.getElem_cons_succ, Act.put, List.setIfInBounds_toArray, List.set_cons_zero, List.set_cons_succ]
                    have hx := cell_one3 (w0.alloc (.cells #[] 3)) z
                    rw [World.size_alloc] at hx
                    have own0x := own0.alloc (.cells #[.int .i64 z] 3)
                    refine wpAnyH_ready (rs := [4]) (by kernel_rfl) (by simp) ?_
                    refine AllReadyH.cons (o := _) rfl (fun K hK => ?_) AllReadyH.nil
                    obtain ⟨v1, w1, hrun1, hown1, hg1⟩ := runI_app ((w0.alloc (.cells #[] 3)).alloc (.cells #[.int .i64 z] 3)) own0x none 0 0 (zv (ys.take 0)) HT1.out HT0.out (fun ad e j u hj => HT2.out _ hf2 ad e j u hj) (zv_one _) (by omega) (by simp; omega)
                    have hf3 : Fr (fun _ => False) w0 w1 := hf2.by_own hg1 (fun j e => by simp [Value.ownBlock] at e; omega)
                    rw [if_pos (by rfl)]
                    try simp only [List.getElem_toArray, List.getElem_cons_zero, List.getElem_cons_succ]
                    refine upon_append rfl rfl rfl hrun1 ?_
                    refine hK.out _ _ (HSK.out _ hf3) (fun _ => ?_)
                    clear hK K
                    try simp only [List.getElem_toArray, List.getElem_cons_zero, List.getElem_cons_succ, Act.put, List.setIfInBounds_toArray, List.set_cons_zero, List.set_cons_succ]
                    have hx1 : ∀ j u, [Value.int .i64 z][j]? = some u → w1.cell? ((⟨w0.heap.size + 1, 0, none⟩ : Addr).add j) = some u := fun j u hj => hg1.cell (hx j u hj) (by rw [add_block]; simp [Value.ownBlock])
                    have hb0 : w0.heap.size ≤ w0.heap.size := Nat.le_refl _
                    refine wpAnyH_ready (rs := [14]) (by kernel_rfl) (by simp) ?_
                    refine AllReadyH.cons (o := _) rfl (fun K hK => ?_) AllReadyH.nil
                    obtain ⟨v2, w2, hrun2, hown2, hg2⟩ := runI_app w1 hown1 (some ⟨w0.heap.size + 1, 0, none⟩) 1 1 [.int .i64 z] rfl (fun e => nomatch e) (fun ad e j u hj => by obtain rfl := Option.some.inj e; exact hx1 j u hj) (fun u hu => by rw [List.mem_singleton.1 hu]; rfl) (by omega) hf3.size
                    have hf4 : Fr (fun _ => False) w0 w2 := hf3.by_own hg2 (fun j e => Nat.le_trans hb0 (hown1.lt j e).1)
                    rw [if_pos (by rfl)]
                    try simp only [List.getElem_toArray, List.getElem_cons_zero, List.getElem_cons_succ]
                    refine upon_append rfl rfl rfl hrun2 ?_
                    refine hK.out _ _ (HSK.out _ hf4) (fun _ => ?_)
                    clear hK K
                    try simp only [List.getElem_toArray, List.getElem_cons_zero, List.getElem_cons_succ, Act.put, List.setIfInBounds_toArray, List.set_cons_zero, List.set_cons_succ]
                    refine wpAnyH_take (i := 15) (oi := _) (v := ?vbn215) rfl (by kernel_rfl) (by kernel_rfl) (by kernel_rfl) (fun _ _ _ h => h) (Or.inl ⟨by rfl, ?ybn215⟩) (by assumption) ?rbn215
                    case ybn215 => intro w1 hSw; go_simp; try with_reducible rfl
                    try simp only [List.getElem_toArray, List.getElem_cons_zero, List.getElem_cons_succ, Act.put, List.setIfInBounds_toArray, List.set_cons_zero, List.set_cons_succ]
                    refine wpAnyH_done (by kernel_rfl) ?_ _
                    have HOWN := Lib.hid (ownsG_base hown2 hb0)
                    have HFF := Lib.hid hf4
                    clear hrun1 hrun2 hown1 hown2 hg1 hg2
                    go_wp2
                    go_meet
                    refine ⟨?_, HF0.out.trans HFF.out⟩
                    have hx := HOWN.out
                    rw [Nat.zero_add, List.nil_append, ← zv_snoc] at hx
                    exact ownsG_base hx HWS.out
                · rw [if_pos (by rfl)]
                  try simp only [List.getElem_toArray, List.getElem_cons_zero, List.getElem_cons_succ]
                  go_simp
                  have hf1 : Fr (fun _ => False) w0 (w0.alloc (.cells #[.int .i64 z] 3)) := hf0.trans (Fr.alloc _ _ _)
                  refine hK.out _ _ (HSK.out _ hf1) (fun _ => ?_)
                  clear hK K
                  try simp only [List.getElem_toArray, List.getElem_cons_zero, List.getElem_cons_succ, Act.put, List.setIfInBounds_toArray, List.set_cons_zero, List.set_cons_succ]
                  have hx := cell_one3 w0 z
                  refine wpAnyH_ready (rs := [0]) (by kernel_rfl) (by simp) ?_
                  refine AllReadyH.cons (o := _) rfl (fun K hK => ?_) AllReadyH.nil
                  rw [if_pos (by rfl)]
                  try simp only [List.getElem_toArray, List.getElem_cons_zero, List.getElem_cons_succ]
                  go_simp
                  have hf2 : Fr (fun _ => False) w0 ((w0.alloc (.cells #[.int .i64 z] 3)).alloc (.cells #[] 3)) := hf1.trans (Fr.alloc _ _ _)
                  refine hK.out _ _ (HSK.out _ hf2) (fun _ => ?_)
                  clear hK K
                  try simp only [List.getElem_toArray, List.getElem_cons_zero, List.getElem_cons_succ, Act.put, List.setIfInBounds_toArray, List.set_cons_zero, List.set_cons_succ]
                  have own0 := owns_empty3 (w0.alloc (.cells #[.int .i64 z] 3))
                  rw [World.size_alloc] at own0
                  have hx0 := cell_alloc3 hx (.cells #[] 3)
                  refine wpAnyH_ready (rs := [4]) (by kernel_rfl) (by simp) ?_
                  refine AllReadyH.cons (o := _) rfl (fun K hK => ?_) AllReadyH.nil
                  obtain ⟨v1, w1, hrun1, hown1, hg1⟩ := runI_app ((w0.alloc (.cells #[.int .i64 z] 3)).alloc (.cells #[] 3)) own0 none 0 0 (zv (ys.take 0)) HT1.out HT0.out (fun ad e j u hj => HT2.out _ hf2 ad e j u hj) (zv_one _) (by omega) (by simp)
                  have hf3 : Fr (fun _ => False) w0 w1 := hf2.by_own hg1 (fun j e => by simp [Value.ownBlock] at e; omega)
                  rw [if_pos (by rfl)]
                  try simp only [List.getElem_toArray, List.getElem_cons_zero, List.getElem_cons_succ]
                  refine upon_append rfl rfl rfl hrun1 ?_
                  refine hK.out _ _ (HSK.out _ hf3) (fun _ => ?_)
                  clear hK K
                  try simp only [List.getElem_toArray, List.getElem_cons_zero, List.getElem_cons_succ, Act.put, List.setIfInBounds_toArray, List.set_cons_zero, List.set_cons_succ]
                  have hx1 : ∀ j u, [Value.int .i64 z][j]? = some u → w1.cell? ((⟨w0.heap.size, 0, none⟩ : Addr).add j) = some u := fun j u hj => hg1.cell (hx0 j u hj) (by rw [add_block]; simp [Value.ownBlock])
                  have hb0 : w0.heap.size ≤ w0.heap.size + 1 := Nat.le_succ _
                  refine wpAnyH_ready (rs := [14]) (by kernel_rfl) (by simp) ?_
                  refine AllReadyH.cons (o := _) rfl (fun K hK => ?_) AllReadyH.nil
                  obtain ⟨v2, w2, hrun2, hown2, hg2⟩ := runI_app w1 hown1 (some ⟨w0.heap.size, 0, none⟩) 1 1 [.int .i64 z] rfl (fun e => nomatch e) (fun ad e j u hj => by obtain rfl := Option.some.inj e; exact hx1 j u hj) (fun u hu => by rw [List.mem_singleton.1 hu]; rfl) (by omega) (Nat.le_trans (by simp) hg1.size)
                  have hf4 : Fr (fun _ => False) w0 w2 := hf3.by_own hg2 (fun j e => Nat.le_trans hb0 (hown1.lt j e).1)
                  rw [if_pos (by rfl)]
                  try simp only [List.getElem_toArray, List.getElem_cons_zero, List.getElem_cons_succ]
                  refine upon_append rfl rfl rfl hrun2 ?_
                  refine hK.out _ _ (HSK.out _ hf4) (fun _ => ?_)
                  clear hK K
                  try simp only [List.getElem_toArray, List.getElem_cons_zero, List.getElem_cons_succ, Act.put, List.setIfInBounds_toArray, List.set_cons_zero, List.set_cons_succ]
                  refine wpAnyH_take (i := 15) (oi := _) (v := ?vcn215) rfl (by kernel_rfl) (by kernel_rfl) (by kernel_rfl) (fun _ _ _ h => h) (Or.inl ⟨by rfl, ?ycn215⟩) (by assumption) ?rcn215
                  case ycn215 => intro w1 hSw; go_simp; try with_reducible rfl
                  try simp only [List.getElem_toArray, List.getElem_cons_zero, List.getElem_cons_succ, Act.put, List.setIfInBounds_toArray, List.set_cons_zero, List.set_cons_succ]
                  refine wpAnyH_done (by kernel_rfl) ?_ _
                  have HOWN := Lib.hid (ownsG_base hown2 hb0)
                  have HFF := Lib.hid hf4
                  clear hrun1 hrun2 hown1 hown2 hg1 hg2
                  go_wp2
                  go_meet
                  refine ⟨?_, HF0.out.trans HFF.out⟩
                  have hx := HOWN.out
                  rw [Nat.zero_add, List.nil_append, ← zv_snoc] at hx
                  exact ownsG_base hx HWS.out
              case rest =>
                obtain ⟨hoc6, hfc⟩ := hcut
                obtain ⟨ao6, q6, rfl⟩ : ∃ ao6 q6, u6 = .slice ao6 (0 + 1) q6 := owns_slice3 hoc6
                obtain ⟨v3, w3, hrun3, hown3, hg3⟩ := runI_app wc hoc6 none 0 0 (zv (ys.drop 0)) HD1.out HD0.out (fun ad e j u hj => HD2.out wc hfc ad e j u hj) (zv_one _) (by omega) (Nat.le_trans hWv hfc.size)
                have hf3 : Fr (fun _ => False) W w3 := ⟨hg3.os.trans (hfc.os.trans (HFV.out.os.trans HFR.out.os)), hg3.tape.trans (hfc.tape.trans (HFV.out.tape.trans HFR.out.tape)), hg3.output.trans (hfc.output.trans (HFV.out.output.trans HFR.out.output)), Nat.le_trans hWv (Nat.le_trans hfc.size hg3.size), fun j hj _ => (hg3.block j (Nat.lt_of_lt_of_le hj (Nat.le_trans hWv hfc.size)) (fun e => by have := (hoc6.lt j e.symm).1; omega)).trans ((hfc.block j (Nat.lt_of_lt_of_le hj hWv) id).trans ((HFV.out.block j (Nat.lt_of_lt_of_le hj hsz0) id).trans (HFR.out.block j hj id)))⟩
                have HO3 := Lib.hid hown3
                have HF3 := Lib.hid hf3
                have HNP := Lib.hid (HNA.out.put HQ.out (fun j y hj hy => by rw [HZ.out]; exact HLO.out j y hj hy) (k := 0) (fun y hy => by rw [HZ.out]; exact HGT.out y hy))
                have HLY : Hid ((ys.take 0 ++ [z] ++ ys.drop 0).length = 0 + 1 + 0) := Lib.hid (by rw [List.length_append, List.length_append, List.length_take, List.length_drop, HM.out]; simp <;> omega)
                clear hoc6 hfc hown3 hg3 hf3 hfv
                go_wp2_with (first | (at_builtin; refine wpl_app rfl _ _ rfl rfl rfl hrun3 ?_) | fail)
                go_roundw
                case rel =>
                  refine ⟨i + 1, ys.take 0 ++ [z] ++ ys.drop 0, by omega, by go_num, ?_, by have := HNP.out; rw [HZ.out] at this; exact this, by rw [HLY.out]; omega, HF3.out⟩
                  rw [HLY.out, zv_app]
                  exact HO3.out
                case measure => simp [intOf]; omega
            · have HOC := Lib.hid hoc
              clear hoc
              go_quiet (fail)
              go_upto_region 9 with (fail)
              try simp only [World.drewN_drewN]
              generalize hwv : wr.drewN (nd + nq) = wv
              have hfv : Fr (fun _ => False) wr wv := hwv ▸ Fr.drewN _ wr (nd + nq)
              have m1 := (World.cell?_of_block (hfv.block rb hrl2 id)).trans k1
              have m2 := (World.cell?_of_block (hfv.block g hgl id)).trans e0
              have HFV := Lib.hid hfv
              have hWv : W.heap.size ≤ wv.heap.size := Nat.le_trans hsz0 hfv.size
              clear hwv
              have HT1 : Hid ((zv (ys.take k)).length = k) := Lib.hid (by rw [zv_len, List.length_take, HM.out]; omega)
              have HT0 : Hid (((some ⟨go, 0, none⟩) : Option Addr) = none → k = 0 ∧ cp = 0) := Lib.hid (fun e => nomatch e)
              have HT9 : Hid (∀ w' : World, Fr (fun _ => False) wv w' → ∀ ad, ((some ⟨go, 0, none⟩) : Option Addr) = some ad → ∀ j u, (zv (ys.take k))[j]? = some u → w'.cell? (ad.add j) = some u) := Lib.hid (fun w' hf ad e j u hj => by
                obtain rfl : (⟨go, 0, none⟩ : Addr) = ad := Option.some.inj e
                rw [off_add, Nat.zero_add]
                have hjk : j < k := by have := (List.getElem?_eq_some_iff.1 hj).1; rw [zv_len, List.length_take] at this; omega
                rw [zv, List.getElem?_map, List.getElem?_take_of_lt hjk] at hj
                obtain ⟨y, hy, rfl⟩ := Option.map_eq_some_iff.1 hj
                exact (World.cell?_of_block ((HFV.out.trans hf).block go hgo id)).trans (HOC.out j y hy))
              obtain ⟨A, hA, hAc⟩ : ∃ A : Addr, (if cp = k then some (⟨go, 0, none⟩ : Addr) else some ⟨go, k, none⟩) = some A ∧ ∀ w' : World, Fr (fun _ => False) wv w' → ∀ j u, (zv (ys.drop k))[j]? = some u → w'.cell? (A.add j) = some u := by
                by_cases e : cp = k
                · rw [if_pos e]
                  refine ⟨_, rfl, fun w' hf j u hj => ?_⟩
                  have : ys.drop k = [] := List.drop_eq_nil_of_le (by rw [HM.out]; omega)
                  rw [this] at hj
                  simp [zv] at hj
                · rw [if_neg e]
                  refine ⟨_, rfl, fun w' hf j u hj => ?_⟩
                  rw [off_add]
                  rw [zv, List.getElem?_map, List.getElem?_drop] at hj
                  obtain ⟨y, hy, rfl⟩ := Option.map_eq_some_iff.1 hj
                  exact (World.cell?_of_block ((HFV.out.trans hf).block go hgo id)).trans (HOC.out _ y hy)
              have HD1 : Hid ((zv (ys.drop k)).length = 0) := Lib.hid (by rw [zv_len, List.length_drop, HM.out]; omega)
              have HD0 : Hid ((some A : Option Addr) = none → 0 = 0 ∧ cp - k = 0) := Lib.hid (fun e => nomatch e)
              have HD2 : Hid (∀ w' : World, Fr (fun _ => False) wv w' → ∀ ad, (some A : Option Addr) = some ad → ∀ j u, (zv (ys.drop k))[j]? = some u → w'.cell? (ad.add j) = some u) := Lib.hid (fun w' hf ad e j u hj => by obtain rfl := Option.some.inj e; exact hAc w' hf j u hj)
              have bk : k ≤ cp := by omega
              clear hAc
              go_cut [6] (fun s6 wc => wc.ownsRow W.heap.size 3 1 s6 (k + 1) (zv (ys.take k ++ [z])) ∧ Fr (fun _ => False) wv wc)
              case first =>
                refine wp_region_held_drew (S := fun (w' : World) => w'.cell? ⟨rb, 1, none⟩ = some (.slice (some ⟨g, 0, none⟩) n cp0) ∧ w'.cell? ⟨g, i * 2, none⟩ = some (.int .i64 z)) (by kernel_rfl) ⟨m1, m2⟩ (fun hHeld => ?_)
                have hF0 : Fr (fun _ => False) wv wv.drew := Fr.drewN _ wv 1
                obtain ⟨w0, hw0⟩ : ∃ w, wv.drew = w := ⟨_, rfl⟩
                rw [hw0] at hF0 hHeld ⊢
                have HF0 := Lib.hid hF0
                have HWS := Lib.hid (Nat.le_trans hWv hF0.size)
                have hf0 : Fr (fun _ => False) w0 w0 := Fr.refl _ _
                have HSK : Hid (∀ w' : World, Fr (fun _ => False) w0 w' → w'.cell? ⟨rb, 1, none⟩ = some (.slice (some ⟨g, 0, none⟩) n cp0) ∧ w'.cell? ⟨g, i * 2, none⟩ = some (.int .i64 z)) := Lib.hid (fun w' hf => ⟨(World.cell?_of_block (hf.block rb (lt_of_cell hHeld.1) id)).trans hHeld.1, (World.cell?_of_block (hf.block g (lt_of_cell hHeld.2) id)).trans hHeld.2⟩)
                have HT2 : Hid (∀ w' : World, Fr (fun _ => False) w0 w' → ∀ ad, ((some ⟨go, 0, none⟩) : Option Addr) = some ad → ∀ j u, (zv (ys.take k))[j]? = some u → w'.cell? (ad.add j) = some u) := Lib.hid (fun w' hf ad e j u hj => HT9.out w' (HF0.out.trans hf) ad e j u hj)
                clear hw0 hF0 m1 m2 hfv
                refine wpAnyH_take (i := 1) (oi := _) (v := ?vn31) rfl (by kernel_rfl) (by kernel_rfl) (by kernel_rfl) (fun _ _ _ h => h) (Or.inl ⟨by rfl, ?yn31⟩) (by assumption) ?rn31
                case yn31 => intro w1 hSw; obtain ⟨s1, s2⟩ := hSw; go_simp; try with_reducible rfl
                try simp only [List.getElem_toArray, List.getElem_cons_zero, List.getElem_cons_succ, Act.put, List.setIfInBounds_toArray, List.set_cons_zero, List.set_cons_succ]
                refine wpAnyH_take (i := 2) (oi := _) (v := ?vn32) rfl (by kernel_rfl) (by kernel_rfl) (by kernel_rfl) (fun _ _ _ h => h) (Or.inl ⟨by rfl, ?yn32⟩) (by assumption) ?rn32
                case yn32 => intro w1 hSw; obtain ⟨s1, s2⟩ := hSw; go_simp; try with_reducible rfl
                try simp only [List.getElem_toArray, List.getElem_cons_zero, List.getElem_cons_succ, Act.put, List.setIfInBounds_toArray, List.set_cons_zero, List.set_cons_succ]
                refine wpAnyH_take (i := 3) (oi := _) (v := ?vn33) rfl (by kernel_rfl) (by kernel_rfl) (by kernel_rfl) (fun _ _ _ h => h) (Or.inl ⟨by rfl, ?yn33⟩) (by assumption) ?rn33
                case yn33 => intro w1 hSw; obtain ⟨s1, s2⟩ := hSw; go_simp; try with_reducible rfl
                try simp only [List.getElem_toArray, List.getElem_cons_zero, List.getElem_cons_succ, Act.put, List.setIfInBounds_toArray, List.set_cons_zero, List.set_cons_succ]
                refine wpAnyH_take (i := 5) (oi := _) (v := ?vn35) rfl (by kernel_rfl) (by kernel_rfl) (by kernel_rfl) (fun _ _ _ h => h) (Or.inl ⟨by rfl, ?yn35⟩) (by assumption) ?rn35
                case yn35 => intro w1 hSw; obtain ⟨s1, s2⟩ := hSw; go_simp; try with_reducible rfl
                try simp only [List.getElem_toArray, List.getElem_cons_zero, List.getElem_cons_succ, Act.put, List.setIfInBounds_toArray, List.set_cons_zero, List.set_cons_succ]
                refine wpAnyH_take (i := 6) (oi := _) (v := ?vn36) rfl (by kernel_rfl) (by kernel_rfl) (by kernel_rfl) (fun _ _ _ h => h) (Or.inl ⟨by rfl, ?yn36⟩) (by assumption) ?rn36
                case yn36 => intro w1 hSw; obtain ⟨s1, s2⟩ := hSw; go_simp; try with_reducible rfl
                try simp only [List.getElem_toArray, List.getElem_cons_zero, List.getElem_cons_succ, Act.put, List.setIfInBounds_toArray, List.set_cons_zero, List.set_cons_succ]
                refine wpAnyH_take (i := 7) (oi := _) (v := ?vn37) rfl (by kernel_rfl) (by kernel_rfl) (by kernel_rfl) (fun _ _ _ h => h) (Or.inl ⟨by rfl, ?yn37⟩) (by assumption) ?rn37
                case yn37 => intro w1 hSw; obtain ⟨s1, s2⟩ := hSw; go_simp; try with_reducible rfl
                try simp only [List.getElem_toArray, List.getElem_cons_zero, List.getElem_cons_succ, Act.put, List.setIfInBounds_toArray, List.set_cons_zero, List.set_cons_succ]
                refine wpAnyH_take (i := 8) (oi := _) (v := ?vn38) rfl (by kernel_rfl) (by kernel_rfl) (by kernel_rfl) (fun _ _ _ h => h) (Or.inl ⟨by rfl, ?yn38⟩) (by assumption) ?rn38
                case yn38 => intro w1 hSw; obtain ⟨s1, s2⟩ := hSw; go_simp; try with_reducible rfl
                try simp only [List.getElem_toArray, List.getElem_cons_zero, List.getElem_cons_succ, Act.put, List.setIfInBounds_toArray, List.set_cons_zero, List.set_cons_succ]
                refine wpAnyH_take (i := 9) (oi := _) (v := ?vn39) rfl (by kernel_rfl) (by kernel_rfl) (by kernel_rfl) (fun _ _ _ h => h) (Or.inl ⟨by rfl, ?yn39⟩) (by assumption) ?rn39
                case yn39 => intro w1 hSw; obtain ⟨s1, s2⟩ := hSw; go_simp; try with_reducible rfl
                try simp only [List.getElem_toArray, List.getElem_cons_zero, List.getElem_cons_succ, Act.put, List.setIfInBounds_toArray, List.set_cons_zero, List.set_cons_succ]
                refine wpAnyH_take (i := 10) (oi := _) (v := ?vn310) rfl (by kernel_rfl) (by kernel_rfl) (by kernel_rfl) (fun _ _ _ h => h) (Or.inl ⟨by rfl, ?yn310⟩) (by assumption) ?rn310
                case yn310 => intro w1 hSw; obtain ⟨s1, s2⟩ := hSw; go_simp; try with_reducible rfl
                try simp only [List.getElem_toArray, List.getElem_cons_zero, List.getElem_cons_succ, Act.put, List.setIfInBounds_toArray, List.set_cons_zero, List.set_cons_succ]
                refine wpAnyH_take (i := 11) (oi := _) (v := ?vn311) rfl (by kernel_rfl) (by kernel_rfl) (by kernel_rfl) (fun _ _ _ h => h) (Or.inl ⟨by rfl, ?yn311⟩) (by assumption) ?rn311
                case yn311 => intro w1 hSw; obtain ⟨s1, s2⟩ := hSw; go_simp; try with_reducible rfl
                try simp only [List.getElem_toArray, List.getElem_cons_zero, List.getElem_cons_succ, Act.put, List.setIfInBounds_toArray, List.set_cons_zero, List.set_cons_succ]
                refine wpAnyH_take (i := 12) (oi := _) (v := ?vn312) rfl (by kernel_rfl) (by kernel_rfl) (by kernel_rfl) (fun _ _ _ h => h) (Or.inl ⟨by rfl, ?yn312⟩) (by assumption) ?rn312
                case yn312 => intro w1 hSw; obtain ⟨s1, s2⟩ := hSw; go_simp; try with_reducible rfl
                try simp only [List.getElem_toArray, List.getElem_cons_zero, List.getElem_cons_succ, Act.put, List.setIfInBounds_toArray, List.set_cons_zero, List.set_cons_succ]
                refine wpAnyH_ready (rs := [0, 13]) (by kernel_rfl) (by simp) ?_
                refine AllReadyH.cons (o := _) rfl (fun K hK => ?_) (AllReadyH.cons (o := _) rfl (fun K hK => ?_) AllReadyH.nil)
                · rw [if_pos (by rfl)]
                  try simp only [List.getElem_toArray, List.getElem_cons_zero, List.getElem_cons_succ]
                  go_simp
                  have hf1 : Fr (fun _ => False) w0 (w0.alloc (.cells #[] 3)) := hf0.trans (Fr.alloc _ _ _)
                  refine hK.out _ _ (HSK.out _ hf1) (fun _ => ?_)
                  clear hK K
                  try simp only [List.getElem_toArray, List.getElem_cons_zero, List.getElem_cons_succ, Act.put, List.setIfInBounds_toArray, List.set_cons_zero, List.set_cons_succ]
                  have own0 := owns_empty3 w0
                  refine wpAnyH_ready (rs := [4, 13]) (by kernel_rfl) (by simp) ?_
                  refine AllReadyH.cons (o := _) rfl (fun K hK => ?_) (AllReadyH.cons (o := _) rfl (fun K hK => ?_) AllReadyH.nil)
                  · obtain ⟨v1, w1, hrun1, hown1, hg1⟩ := runI_app (w0.alloc (.cells #[] 3)) own0 (some ⟨go, 0, none⟩) k cp (zv (ys.take k)) HT1.out HT0.out (fun ad e j u hj => HT2.out _ hf1 ad e j u hj) (zv_one _) (by omega) (by simp)
                    have hf2 : Fr (fun _ => False) w0 w1 := hf1.by_own hg1 (fun j e => by simp [Value.ownBlock] at e; omega)
                    rw [if_pos (by rfl)]
                    try simp only [List.getElem_toArray, List.getElem_cons_zero, List.getElem_cons_succ]
                    refine upon_append rfl rfl rfl hrun1 ?_
                    refine hK.out _ _ (HSK.out _ hf2) (fun _ => ?_)
                    clear hK K
                    try simp only [List.getElem_toArray, List.getElem_cons_zero, List.getElem_cons_succ, Act.put, List.setIfInBounds_toArray, List.set_cons_zero, List.set_cons_succ]
                    refine wpAnyH_ready (rs := [13]) (by kernel_rfl) (by simp) ?_
                    refine AllReadyH.cons (o := _) rfl (fun K hK => ?_) AllReadyH.nil
                    rw [if_pos (by rfl)]
                    try simp only [List.getElem_toArray, List.getElem_cons_zero, List.getElem_cons_succ]
                    go_simp
                    have hf3 : Fr (fun _ => False) w0 (w1.alloc (.cells #[.int .i64 z] 3)) := hf2.trans (Fr.alloc _ _ _)
                    refine hK.out _ _ (HSK.out _ hf3) (fun _ => ?_)
                    clear hK K
                    try simp only [List.getElem_toArray, List.getElem_cons_zero, List.getElem_cons_succ, Act.put, List.setIfInBounds_toArray, List.set_cons_zero, List.set_cons_succ]
                    have hx := cell_one3 w1 z
                    have own1 := hown1.alloc (.cells #[.int .i64 z] 3)
                    have hb0 : w0.heap.size ≤ w0.heap.size := Nat.le_refl _
                    have hb1 : w0.heap.size ≤ (w1.alloc (.cells #[.int .i64 z] 3)).heap.size := hf3.size
                    refine wpAnyH_ready (rs := [14]) (by kernel_rfl) (by simp) ?_
                    refine AllReadyH.cons (o := _) rfl (fun K hK => ?_) AllReadyH.nil
                    obtain ⟨v2, w2, hrun2, hown2, hg2⟩ := runI_app (w1.alloc (.cells #[.int .i64 z] 3)) own1 (some ⟨w1.heap.size, 0, none⟩) 1 1 [.int .i64 z] rfl (fun e => nomatch e) (fun ad e j u hj => by obtain rfl := Option.some.inj e; exact hx j u hj) (fun u hu => by rw [List.mem_singleton.1 hu]; rfl) (by omega) hb1
                    have hf4 : Fr (fun _ => False) w0 w2 := hf3.by_own hg2 (fun j e => Nat.le_trans hb0 (hown1.lt j e).1)
                    rw [if_pos (by rfl)]
                    try simp only [List.getElem_toArray, List.getElem_cons_zero, List.getElem_cons_succ]
                    refine upon_append rfl rfl rfl hrun2 ?_
                    refine hK.out _ _ (HSK.out _ hf4) (fun _ => ?_)
                    clear hK K
                    try simp only [List.getElem_toArray, List.getElem_cons_zero, List.getElem_cons_succ, Act.put, List.setIfInBounds_toArray, List.set_cons_zero, List.set_cons_succ]
                    refine wpAnyH_take (i := 15) (oi := _) (v := ?van315) rfl (by kernel_rfl) (by kernel_rfl) (by kernel_rfl) (fun _ _ _ h => h) (Or.inl ⟨by rfl, ?yan315⟩) (by assumption) ?ran315
                    case yan315 => intro w1 hSw; go_simp; try with_reducible rfl
                    try simp only [List.getElem_toArray, List.getElem_cons_zero, List.getElem_cons_succ, Act.put, List.setIfInBounds_toArray, List.set_cons_zero, List.set_cons_succ]
                    refine wpAnyH_done (by kernel_rfl) ?_ _
                    have HOWN := Lib.hid (ownsG_base hown2 hb0)
                    have HFF := Lib.hid hf4
                    clear hrun1 hrun2 hown1 hown2 hg1 hg2
                    go_wp2
                    go_meet
                    refine ⟨?_, HF0.out.trans HFF.out⟩
                    have hx := HOWN.out
                    rw [Nat.zero_add, List.nil_append, ← zv_snoc] at hx
                    exact ownsG_base hx HWS.out
                  · rw [if_pos (by rfl)]
                    try simp only [List.getElem_toArray, List.getElem_cons_zero, List.getElem_cons_succ]
                    go_simp
                    have hf2 : Fr (fun _ => False) w0 ((w0.alloc (.cells #[] 3)).alloc (.cells #[.int .i64 z] 3)) := hf1.trans (Fr.alloc _ _ _)
                    refine hK.out _ _ (HSK.out _ hf2) (fun _ => ?_)
                    clear hK K
                    try simp only [List.getElem_toArray, List.getElem_cons_zero, List.getElem_cons_succ, Act.put, List.setIfInBounds_toArray, List.set_cons_zero, List.set_cons_succ]
                    have hx := cell_one3 (w0.alloc (.cells #[] 3)) z
                    rw [World.size_alloc] at hx
                    have own0x := own0.alloc (.cells #[.int .i64 z] 3)
                    refine wpAnyH_ready (rs := [4]) (by kernel_rfl) (by simp) ?_
                    refine AllReadyH.cons (o := _) rfl (fun K hK => ?_) AllReadyH.nil
                    obtain ⟨v1, w1, hrun1, hown1, hg1⟩ := runI_app ((w0.alloc (.cells #[] 3)).alloc (.cells #[.int .i64 z] 3)) own0x (some ⟨go, 0, none⟩) k cp (zv (ys.take k)) HT1.out HT0.out (fun ad e j u hj => HT2.out _ hf2 ad e j u hj) (zv_one _) (by omega) (by simp; omega)
                    have hf3 : Fr (fun _ => False) w0 w1 := hf2.by_own hg1 (fun j e => by simp [Value.ownBlock] at e; omega)
                    rw [if_pos (by rfl)]
                    try simp only [List.getElem_toArray, List.getElem_cons_zero, List.getElem_cons_succ]
                    refine upon_append rfl rfl rfl hrun1 ?_
                    refine hK.out _ _ (HSK.out _ hf3) (fun _ => ?_)
                    clear hK K
                    try simp only [List.getElem_toArray, List.getElem_cons_zero, List.getElem_cons_succ, Act.put, List.setIfInBounds_toArray, List.set_cons_zero, List.set_cons_succ]
                    have hx1 : ∀ j u, [Value.int .i64 z][j]? = some u → w1.cell? ((⟨w0.heap.size + 1, 0, none⟩ : Addr).add j) = some u := fun j u hj => hg1.cell (hx j u hj) (by rw [add_block]; simp [Value.ownBlock])
                    have hb0 : w0.heap.size ≤ w0.heap.size := Nat.le_refl _
                    refine wpAnyH_ready (rs := [14]) (by kernel_rfl) (by simp) ?_
                    refine AllReadyH.cons (o := _) rfl (fun K hK => ?_) AllReadyH.nil
                    obtain ⟨v2, w2, hrun2, hown2, hg2⟩ := runI_app w1 hown1 (some ⟨w0.heap.size + 1, 0, none⟩) 1 1 [.int .i64 z] rfl (fun e => nomatch e) (fun ad e j u hj => by obtain rfl := Option.some.inj e; exact hx1 j u hj) (fun u hu => by rw [List.mem_singleton.1 hu]; rfl) (by omega) hf3.size
                    have hf4 : Fr (fun _ => False) w0 w2 := hf3.by_own hg2 (fun j e => Nat.le_trans hb0 (hown1.lt j e).1)
                    rw [if_pos (by rfl)]
                    try simp only [List.getElem_toArray, List.getElem_cons_zero, List.getElem_cons_succ]
                    refine upon_append rfl rfl rfl hrun2 ?_
                    refine hK.out _ _ (HSK.out _ hf4) (fun _ => ?_)
                    clear hK K
                    try simp only [List.getElem_toArray, List.getElem_cons_zero, List.getElem_cons_succ, Act.put, List.setIfInBounds_toArray, List.set_cons_zero, List.set_cons_succ]
                    refine wpAnyH_take (i := 15) (oi := _) (v := ?vbn315) rfl (by kernel_rfl) (by kernel_rfl) (by kernel_rfl) (fun _ _ _ h => h) (Or.inl ⟨by rfl, ?ybn315⟩) (by assumption) ?rbn315
                    case ybn315 => intro w1 hSw; go_simp; try with_reducible rfl
                    try simp only [List.getElem_toArray, List.getElem_cons_zero, List.getElem_cons_succ, Act.put, List.setIfInBounds_toArray, List.set_cons_zero, List.set_cons_succ]
                    refine wpAnyH_done (by kernel_rfl) ?_ _
                    have HOWN := Lib.hid (ownsG_base hown2 hb0)
                    have HFF := Lib.hid hf4
                    clear hrun1 hrun2 hown1 hown2 hg1 hg2
                    go_wp2
                    go_meet
                    refine ⟨?_, HF0.out.trans HFF.out⟩
                    have hx := HOWN.out
                    rw [Nat.zero_add, List.nil_append, ← zv_snoc] at hx
                    exact ownsG_base hx HWS.out
                · rw [if_pos (by rfl)]
                  try simp only [List.getElem_toArray, List.getElem_cons_zero, List.getElem_cons_succ]
                  go_simp
                  have hf1 : Fr (fun _ => False) w0 (w0.alloc (.cells #[.int .i64 z] 3)) := hf0.trans (Fr.alloc _ _ _)
                  refine hK.out _ _ (HSK.out _ hf1) (fun _ => ?_)
                  clear hK K
                  try simp only [List.getElem_toArray, List.getElem_cons_zero, List.getElem_cons_succ, Act.put, List.setIfInBounds_toArray, List.set_cons_zero, List.set_cons_succ]
                  have hx := cell_one3 w0 z
                  refine wpAnyH_ready (rs := [0]) (by kernel_rfl) (by simp) ?_
                  refine AllReadyH.cons (o := _) rfl (fun K hK => ?_) AllReadyH.nil
                  rw [if_pos (by rfl)]
                  try simp only [List.getElem_toArray, List.getElem_cons_zero, List.getElem_cons_succ]
                  go_simp
                  have hf2 : Fr (fun _ => False) w0 ((w0.alloc (.cells #[.int .i64 z] 3)).alloc (.cells #[] 3)) := hf1.trans (Fr.alloc _ _ _)
                  refine hK.out _ _ (HSK.out _ hf2) (fun _ => ?_)
                  clear hK K
                  try simp only [List.getElem_toArray, List.getElem_cons_zero, List.getElem_cons_succ, Act.put, List.setIfInBounds_toArray, List.set_cons_zero, List.set_cons_succ]
                  have own0 := owns_empty3 (w0.alloc (.cells #[.int .i64 z] 3))
                  rw [World.size_alloc] at own0
                  have hx0 := cell_alloc3 hx (.cells #[] 3)
                  refine wpAnyH_ready (rs := [4]) (by kernel_rfl) (by simp) ?_
                  refine AllReadyH.cons (o := _) rfl (fun K hK => ?_) AllReadyH.nil
                  obtain ⟨v1, w1, hrun1, hown1, hg1⟩ := runI_app ((w0.alloc (.cells #[.int .i64 z] 3)).alloc (.cells #[] 3)) own0 (some ⟨go, 0, none⟩) k cp (zv (ys.take k)) HT1.out HT0.out (fun ad e j u hj => HT2.out _ hf2 ad e j u hj) (zv_one _) (by omega) (by simp)
                  have hf3 : Fr (fun _ => False) w0 w1 := hf2.by_own hg1 (fun j e => by simp [Value.ownBlock] at e; omega)
                  rw [if_pos (by rfl)]
                  try simp only [List.getElem_toArray, List.getElem_cons_zero, List.getElem_cons_succ]
                  refine upon_append rfl rfl rfl hrun1 ?_
                  refine hK.out _ _ (HSK.out _ hf3) (fun _ => ?_)
                  clear hK K
                  try simp only [List.getElem_toArray, List.getElem_cons_zero, List.getElem_cons_succ, Act.put, List.setIfInBounds_toArray, List.set_cons_zero, List.set_cons_succ]
                  have hx1 : ∀ j u, [Value.int .i64 z][j]? = some u → w1.cell? ((⟨w0.heap.size, 0, none⟩ : Addr).add j) = some u := fun j u hj => hg1.cell (hx0 j u hj) (by rw [add_block]; simp [Value.ownBlock])
                  have hb0 : w0.heap.size ≤ w0.heap.size + 1 := Nat.le_succ _
                  refine wpAnyH_ready (rs := [14]) (by kernel_rfl) (by simp) ?_
                  refine AllReadyH.cons (o := _) rfl (fun K hK => ?_) AllReadyH.nil
                  obtain ⟨v2, w2, hrun2, hown2, hg2⟩ := runI_app w1 hown1 (some ⟨w0.heap.size, 0, none⟩) 1 1 [.int .i64 z] rfl (fun e => nomatch e) (fun ad e j u hj => by obtain rfl := Option.some.inj e; exact hx1 j u hj) (fun u hu => by rw [List.mem_singleton.1 hu]; rfl) (by omega) (Nat.le_trans (by simp) hg1.size)
                  have hf4 : Fr (fun _ => False) w0 w2 := hf3.by_own hg2 (fun j e => Nat.le_trans hb0 (hown1.lt j e).1)
                  rw [if_pos (by rfl)]
                  try simp only [List.getElem_toArray, List.getElem_cons_zero, List.getElem_cons_succ]
                  refine upon_append rfl rfl rfl hrun2 ?_
                  refine hK.out _ _ (HSK.out _ hf4) (fun _ => ?_)
                  clear hK K
                  try simp only [List.getElem_toArray, List.getElem_cons_zero, List.getElem_cons_succ, Act.put, List.setIfInBounds_toArray, List.set_cons_zero, List.set_cons_succ]
                  refine wpAnyH_take (i := 15) (oi := _) (v := ?vcn315) rfl (by kernel_rfl) (by kernel_rfl) (by kernel_rfl) (fun _ _ _ h => h) (Or.inl ⟨by rfl, ?ycn315⟩) (by assumption) ?rcn315
                  case ycn315 => intro w1 hSw; go_simp; try with_reducible rfl
                  try simp only [List.getElem_toArray, List.getElem_cons_zero, List.getElem_cons_succ, Act.put, List.setIfInBounds_toArray, List.set_cons_zero, List.set_cons_succ]
                  refine wpAnyH_done (by kernel_rfl) ?_ _
                  have HOWN := Lib.hid (ownsG_base hown2 hb0)
                  have HFF := Lib.hid hf4
                  clear hrun1 hrun2 hown1 hown2 hg1 hg2
                  go_wp2
                  go_meet
                  refine ⟨?_, HF0.out.trans HFF.out⟩
                  have hx := HOWN.out
                  rw [Nat.zero_add, List.nil_append, ← zv_snoc] at hx
                  exact ownsG_base hx HWS.out
              case rest =>
                obtain ⟨hoc6, hfc⟩ := hcut
                obtain ⟨ao6, q6, rfl⟩ : ∃ ao6 q6, u6 = .slice ao6 (k + 1) q6 := owns_slice3 hoc6
                obtain ⟨v3, w3, hrun3, hown3, hg3⟩ := runI_app wc hoc6 (some A) 0 (cp - k) (zv (ys.drop k)) HD1.out HD0.out (fun ad e j u hj => HD2.out wc hfc ad e j u hj) (zv_one _) (by omega) (Nat.le_trans hWv hfc.size)
                have hf3 : Fr (fun _ => False) W w3 := ⟨hg3.os.trans (hfc.os.trans (HFV.out.os.trans HFR.out.os)), hg3.tape.trans (hfc.tape.trans (HFV.out.tape.trans HFR.out.tape)), hg3.output.trans (hfc.output.trans (HFV.out.output.trans HFR.out.output)), Nat.le_trans hWv (Nat.le_trans hfc.size hg3.size), fun j hj _ => (hg3.block j (Nat.lt_of_lt_of_le hj (Nat.le_trans hWv hfc.size)) (fun e => by have := (hoc6.lt j e.symm).1; omega)).trans ((hfc.block j (Nat.lt_of_lt_of_le hj hWv) id).trans ((HFV.out.block j (Nat.lt_of_lt_of_le hj hsz0) id).trans (HFR.out.block j hj id)))⟩
                have HO3 := Lib.hid hown3
                have HF3 := Lib.hid hf3
                have HNP := Lib.hid (HNA.out.put HQ.out (fun j y hj hy => by rw [HZ.out]; exact HLO.out j y hj hy) (k := k) (fun y hy => by rw [HZ.out]; exact HGT.out y hy))
                have HLY : Hid ((ys.take k ++ [z] ++ ys.drop k).length = k + 1 + 0) := Lib.hid (by rw [List.length_append, List.length_append, List.length_take, List.length_drop, HM.out]; simp <;> omega)
                clear hoc6 hfc hown3 hg3 hf3 hfv
                go_wp2_with (first | (at_builtin; refine wpl_app rfl _ _ rfl rfl rfl hrun3 ?_) | fail)
                go_roundw
                case rel =>
                  refine ⟨i + 1, ys.take k ++ [z] ++ ys.drop k, by omega, by go_num, ?_, by have := HNP.out; rw [HZ.out] at this; exact this, by rw [HLY.out]; omega, HF3.out⟩
                  rw [HLY.out, zv_app]
                  exact HO3.out
                case measure => simp [intOf]; omega
    · obtain rfl : i = n := by omega
      have p0 : decide ((i : Int) < i) = false := decide_eq_false (by omega)
      have ht : L.take i = L := List.take_of_length_le (by rw [HN.out]; exact Nat.le_refl _)
      rw [ht] at HNA
      clear hown hna hfr ht hn
      go_wp2
      go_ret
      exact ⟨u3, ys, rfl, OWN.out, HNA.out, (by rw [HN.out]; exact hyl), HFR.out⟩
end Go.Proofs.Ytklfppjejndclaa.P2
