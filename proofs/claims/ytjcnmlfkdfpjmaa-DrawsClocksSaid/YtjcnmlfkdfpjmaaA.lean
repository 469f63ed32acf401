/- The walk of DrawsAlarms. -/
import Derived.Test.YtjcnmlfkdfpjmaaO
import Derived.Maps.RangeWalk
import Derived.Deep.Cut
import Derived.Deep.DeepCutAuto
set_option linter.unusedVariables false
set_option linter.unusedSimpArgs false
namespace Go.Proofs.Ytjcnmlfkdfpjmaa
open Go.RowKit Go.Maps
/-- integers that a slice shows -/
def RowA (w : World) (a : Option Addr) (n : Nat) (f : Nat → Int) : Prop := n = 0 ∨ ∃ b o, a = some ⟨b, o, none⟩ ∧ b < w.heap.size ∧ ∀ j, j < n → w.cell? ⟨b, o + j, none⟩ = some (.int .i64 (f j))
def mI (G : Int → Option Int) : Int → Option Value := fun x => (G x).map (Value.int .i64)
/-- THE CLOCK AND THE LAW'S OWN MAP, both of the same alarms, those of the first m places -/
structure AS (W : World) (cb mb sb : Nat) (now : Int) (N : Nat) (G : Int → Option Int) (m : Nat) (f : Nat → Int) : Prop where
  ck : CK W cb mb now N G
  sm : ∃ c, c ≤ N ∧ Mp iKE W sb c (mI G)
  d1 : sb ≠ mb
  d2 : sb ≠ cb
  v : ∀ x t, G x = some t → 0 ≤ x ∧ x < m ∧ t = f x.toNat
theorem AS.fr {S : Nat → Prop} {W W' : World} {cb mb sb N m : Nat} {now : Int} {G : Int → Option Int} {f : Nat → Int} (h : AS W cb mb sb now N G m f) (hf : Fr S W W') (h1 : ¬ S cb) (h2 : ¬ S mb) (h3 : ¬ S sb) : AS W' cb mb sb now N G m f :=
  ⟨h.ck.fr hf h1 h2, by obtain ⟨c, hc, hM⟩ := h.sm; exact ⟨c, hc, hM.fr hf h3⟩, h.d1, h.d2, h.v⟩
theorem mI_put (G : Int → Option Int) (x : Int) (v : Option Int) : upd (mI G) x (v.map (Value.int .i64)) = mI (put1 G x v) := put1_map G x v
theorem put_none {G : Int → Option Int} {x : Int} (h : G x = none) (y : Int) : put1 G x none y = G y := by
  unfold put1
  by_cases e : y = x
  · rw [if_pos e, e, h]
  · rw [if_neg e]
theorem AS.sstore {W : World} {cb mb sb N m : Nat} {now : Int} {G G' : Int → Option Int} {f : Nat → Int} (hs : ∃ c, c ≤ N ∧ Mp iKE W sb c (mI G)) (hN : N < maxLen) {x : Int} (hx : iKE.ok x) (v : Int) :
    ∃ W', (Instr.mapUpdate 32 (.map (some sb)) (.int .i64 x) (.int .i64 v)).run Try.prog W = .ok () W' ∧ (∃ c, c ≤ N + 1 ∧ Mp iKE W' sb c (mI (put1 G x (some v)))) ∧ Fr (fun k => k = sb) W W' := by
  obtain ⟨c, hc, hM⟩ := hs
  obtain ⟨W', hrun, hM', ht⟩ := hM.store Try.underlying32 (by omega) hx (.int .i64 v)
  have hM2 := hM'
  rw [show upd (mI G) x (some (Value.int .i64 v)) = _ from mI_put G x (some v)] at hM2
  exact ⟨W', hrun, ⟨_, (by split <;> omega), hM2⟩, frM ht⟩
theorem AS.sdrop {W : World} {sb N : Nat} {G : Int → Option Int} (hs : ∃ c, c ≤ N ∧ Mp iKE W sb c (mI G)) {x : Int} (hx : iKE.ok x) (ty : TypeId) :
    ∃ W', (Builtin.delete_ #[32, 3] ty #[.map (some sb), .int .i64 x]).run Try.prog W = .ok (.tuple #[]) W' ∧ (∃ c, c ≤ N ∧ Mp iKE W' sb c (mI (put1 G x none))) ∧ Fr (fun k => k = sb) W W' := by
  obtain ⟨c, hc, hM⟩ := hs
  obtain ⟨W', hrun, hM', ht⟩ := hM.drop Try.underlying32 hx ty
  have hM2 := hM'
  rw [show upd (mI G) x none = _ from mI_put G x none] at hM2
  exact ⟨W', hrun, ⟨_, (by split <;> omega), hM2⟩, frM ht⟩
theorem AS.slook {W : World} {sb N : Nat} {G : Int → Option Int} (hs : ∃ c, c ≤ N ∧ Mp iKE W sb c (mI G)) {x : Int} (hx : iKE.ok x) : (Instr.lookup 32 (.map (some sb)) (.int .i64 x) true).run Try.prog W = .ok (.tuple #[.int .i64 ((G x).getD 0), .bool (G x).isSome]) W := by
  obtain ⟨c, hc, hM⟩ := hs
  have := hM.look_ok Try.underlying32 (zero3 _) hx
  rw [show (iKE.kv x) = .int .i64 x from rfl] at this
  rw [this]
  unfold mI
  cases G x <;> rfl
theorem next_val {D : DataW Value} {F : Int → Option Int} (hD : ∀ x, iKE.ok x → Maps.has D (iKE.kl x) = (mI F x).isSome ∧ ∀ z, D.atKey (iKE.kl x) z = (match mI F x with | some v => .held v | none => z)) {x : Int} {cv : Value} {kl : Lit} {y : DataW Value × List MemPlace}
    (hkey : keyOf Try.prog 3 (.int .i64 x) = some kl) (hR : rawR cv = some y) (hat : ∀ zd, D.atKey kl zd = y.1) : iKE.ok x ∧ ∃ t, cv = .int .i64 t ∧ F x = some t := by
  obtain ⟨x', ex, rfl, hw⟩ := Maps.keyOf_int_inv under3 hkey
  cases ex
  refine ⟨hw, ?_⟩
  have h2 := (hD x hw).2
  have hy : y = (.held cv, []) := (Option.some.inj hR).symm
  subst hy
  unfold mI at h2
  cases hF : F x with
  | none =>
    have e1 := (h2 (.held undef)).symm.trans (hat (.held undef))
    have e2 := (h2 (.map [])).symm.trans (hat (.map []))
    rw [hF] at e2
    cases e2
  | some t =>
    have e1 := (h2 (.map [])).symm.trans (hat (.map []))
    rw [hF] at e1
    injection e1 with e1
    exact ⟨t, e1.symm, rfl⟩
theorem tmod50 (a : Int) : -50 < a.tmod 50 ∧ a.tmod 50 < 50 := by
  refine ⟨?_, Int.tmod_lt_of_pos a (by omega)⟩
  by_cases h0 : 0 ≤ a
  · have := Int.tmod_nonneg 50 h0; omega
  · have e : a.tmod 50 = -((-a).tmod 50) := by rw [Int.neg_tmod]; omega
    have := Int.tmod_lt_of_pos (-a) (show (0 : Int) < 50 by omega)
    omega
set_option maxRecDepth 100000 in
theorem set0_any (W : World) (a : Option Addr) (n cap : Nat) (f : Nat → Int) (h : RowA W a n f) (x : Int) (h0 : 0 ≤ x) (h1 : x < n) :
    Calls Try.prog 16 #[.slice a n cap, .int .i64 x] W fun e W' => e = .returned (.int .i64 (f x.toNat)) ∧ W' = W := by
  obtain ⟨k, rfl⟩ : ∃ k : Nat, x = k := ⟨x.toNat, by omega⟩
  rcases h with h | ⟨b, o, rfl, hb, hc⟩
  · omega
  have hk := hc k (by omega)
  have p1 : decide ((k : Int) < 0) = false := decide_eq_false (by omega)
  have p2 : decide ((n : Int) ≤ k) = false := decide_eq_false (by omega)
  rw [Int.toNat_natCast]
  obtain ⟨v, hv⟩ : ∃ v, f k = v := ⟨_, rfl⟩
  rw [hv] at hk ⊢
  clear hc hv
  go_enter Try.func16, Try.ntmps16
  go_wp2
  go_ret
  exact ⟨rfl, rfl⟩
set_option maxRecDepth 100000 in
set_option maxHeartbeats 4000000 in
theorem alarms_law (W : World) (a1 : Option Addr) (n1 c1 : Nat) (f : Nat → Int) (hl1 : n1 ≤ 9223372036854775807) (hr1 : RowA W a1 n1 f) (a2 : Option Addr) (n2 c2 : Nat) (g : Nat → Int) (hl2 : n2 ≤ 9223372036854775807) (hr2 : RowA W a2 n2 g) :
    Calls Try.prog 4 #[.slice a1 n1 c1, .slice a2 n2 c2] W fun e W' => e = .returned (.bool true) ∧ Below W.heap.size W W' := by
  have hmm := @run_makeMap Try.prog
  go_enter Try.func4, Try.ntmps4
  go_wp2_with fail
  refine (known_any _).mono ?_
  rintro e w1 ⟨rfl, b1⟩
  by_cases h1 : 100 < n1
  · have p1 : decide (100 < (n1 : Int)) = true := decide_eq_true (by omega)
    go_wp2
    go_ret
    exact ⟨rfl, b1⟩
  have p1 : decide (100 < (n1 : Int)) = false := decide_eq_false (by omega)
  by_cases h2 : 100 < n2
  · have p2 : decide (100 < (n2 : Int)) = true := decide_eq_true (by omega)
    go_wp2
    go_ret
    exact ⟨rfl, b1⟩
  have p2 : decide (100 < (n2 : Int)) = false := decide_eq_false (by omega)
  go_wp2_with fail
  refine (newClock_any _).mono ?_
  rintro e w2 ⟨rfl, hk2, f2'⟩
  have hs1 := b1.size
  have b2 := b1.trans (f2'.below b1.size (fun k e => e.elim))
  obtain ⟨hlc, hlm⟩ := hk2.lt
  have hA3 : AS (w2.alloc (.map #[] 0)) (w1.heap.size + 1) w1.heap.size w2.heap.size 0 0 (fun _ => none) 0 f :=
    ⟨hk2.kept (Fr.alloc _ _ _), ⟨0, Nat.le_refl _, Mp.made iKE w2⟩, by omega, by omega, fun x t h => (by cases h)⟩
  have b3 : Below W.heap.size W (w2.alloc (.map #[] 0)) := b2.alloc b2.size _
  have HR1 := Lib.hid hr1
  have HR2 := Lib.hid hr2
  have hsw : W.heap.size ≤ w2.heap.size := b2.size
  clear f2' b1 hk2 b2 hr1 hr2
  go_wp2
  obtain ⟨sb, hsb⟩ : ∃ sb, w2.heap.size = sb := ⟨_, rfl⟩
  obtain ⟨mb, hmb⟩ : ∃ mb, w1.heap.size = mb := ⟨_, rfl⟩
  rw [hsb] at hA3 hsw ⊢
  rw [hmb] at hA3 hs1 ⊢
  clear hsb hmb hlc hlm
  go_loopw [7] (fun kv wr => ∃ (i : Nat) (G : Int → Option Int), i ≤ n1 ∧ kv = .int .i64 i ∧ AS wr (mb + 1) mb sb 0 i G i f ∧ Below W.heap.size W wr) (fun kv _ => n1 - (intOf kv).toNat)
  case atStart => exact ⟨0, _, by omega, rfl, hA3, b3⟩
  case round =>
    obtain ⟨i, G, hi, rfl, hA, hb⟩ := hrel
    clear hA3 b3
    by_cases hlt : i < n1
    · have p0 : decide ((i : Int) < n1) = true := decide_eq_true (by omega)
      rcases HR1.out with h0 | ⟨b, o, rfl, hbl, hcc⟩
      · omega
      have d0 : wr.cell? ⟨b, o + i, none⟩ = some (.int .i64 (f i)) := (hb.cell (p := ⟨b, o + i, none⟩) hbl).trans (hcc i hlt)
      obtain ⟨v, hv⟩ : ∃ v, f i = v := ⟨_, rfl⟩
      rw [hv] at d0
      have hok : iKE.ok (i : Int) := wf_of (by omega) (by omega)
      have hGi : G i = none := by
        cases h : G i with
        | none => rfl
        | some t => have := (hA.v _ _ h).2.1; omega
      have hbl2 := hbl
      by_cases k1 : 1000 < v
      · have q1 : decide (1000 < v) = true := decide_eq_true k1
        have HA := Lib.hid hA
        clear hA hcc hGi hok
        go_wp2
        go_roundw
        case rel => exact ⟨i + 1, G, by omega, by go_num, ⟨HA.out.ck.more (Nat.le_succ _), by obtain ⟨c, hc, hM⟩ := HA.out.sm; exact ⟨c, by omega, hM⟩, HA.out.d1, HA.out.d2, fun x t h => by have := HA.out.v x t h; exact ⟨this.1, by omega, this.2.2⟩⟩, hb⟩
        case measure => simp [intOf]; omega
      have q1 : decide (1000 < v) = false := decide_eq_false k1
      have HS := Lib.hid (set_any hA.ck (show i < maxLen by unfold maxLen; omega) (i : Int) v hok)
      by_cases k2 : 0 < v
      · have e1 : setB 0 v = true := decide_eq_true (by omega)
        have e2 : setF 0 G i v = put1 G i (some v) := by unfold setF; rw [if_pos (by omega)]
        rw [e1, e2] at HS
        have HA := Lib.hid hA
        have HG := Lib.hid hGi
        have HV := Lib.hid hv
        have hne := hA.d1
        clear hA hcc hGi e1 e2 hv
        go_wp2_with fail
        refine HS.out.mono ?_
        rintro e w4 ⟨rfl, hk4, hf4⟩
        have hs4 : ∃ c, c ≤ i ∧ Mp iKE w4 sb c (mI G) := by obtain ⟨c, hc, hM⟩ := HA.out.sm; exact ⟨c, hc, hM.fr hf4 hne⟩
        have hb4 := hb.trans (hf4.below hb.size (fun k e => by omega))
        have d4 : w4.cell? ⟨b, o + i, none⟩ = some (.int .i64 v) := ((hf4.below hb.size (fun k e => by omega)).cell (p := ⟨b, o + i, none⟩) hbl).trans d0
        obtain ⟨w5, hrun5, hs5, hf5⟩ := AS.sstore (cb := 0) (mb := 0) (m := 0) (now := 0) (G' := G) (f := f) hs4 (show i < maxLen by unfold maxLen; omega) hok v
        have HK5 := Lib.hid (hk4.fr hf5 (fun e => HA.out.d2 e.symm) (fun e => hne e.symm))
        have HS5 := Lib.hid hs5
        have hb5 := hb4.trans (hf5.below hb4.size (fun k e => by omega))
        clear hk4 hf4 hs4 hs5 hf5 HS hok
        go_wp2
        go_roundw
        case rel =>
          refine ⟨i + 1, put1 G i (some v), by omega, by go_num, ⟨HK5.out, HS5.out, hne, HA.out.d2, fun x t h => ?_⟩, hb5⟩
          unfold put1 at h
          by_cases e : x = i
          · rw [if_pos e] at h
            cases h
            rw [e, Int.toNat_natCast]
            exact ⟨by omega, by omega, HV.out.symm⟩
          · rw [if_neg e] at h
            have := HA.out.v x t h
            exact ⟨this.1, by omega, this.2.2⟩
        case measure => simp [intOf]; omega
      · have e1 : setB 0 v = false := decide_eq_false (by omega)
        have e2 : ∀ y, setF 0 G i v y = G y := fun y => by unfold setF; rw [if_neg (by omega)]; exact put_none hGi y
        rw [e1] at HS
        have HE := Lib.hid e2
        have HA := Lib.hid hA
        have hne := hA.d1
        clear hA hcc hGi e1 e2 hv hok
        go_wp2_with fail
        refine HS.out.mono ?_
        rintro e w4 ⟨rfl, hk4, hf4⟩
        have hs4 : ∃ c, c ≤ i ∧ Mp iKE w4 sb c (mI G) := by obtain ⟨c, hc, hM⟩ := HA.out.sm; exact ⟨c, hc, hM.fr hf4 hne⟩
        have HK4 := Lib.hid (hk4.congr HE.out)
        have HS4 := Lib.hid hs4
        have hb4 := hb.trans (hf4.below hb.size (fun k e => by omega))
        clear hk4 hf4 hs4 HS
        go_wp2
        go_roundw
        case rel => exact ⟨i + 1, G, by omega, by go_num, ⟨HK4.out, by obtain ⟨c, hc, hM⟩ := HS4.out; exact ⟨c, by omega, hM⟩, hne, HA.out.d2, fun x t h => by have := HA.out.v x t h; exact ⟨this.1, by omega, this.2.2⟩⟩, hb4⟩
        case measure => simp [intOf]; omega
    · obtain rfl : i = n1 := by omega
      have p0 : decide ((i : Int) < i) = false := decide_eq_false (by omega)
      have HA := Lib.hid hA
      clear hA
      go_wp2
      obtain ⟨wo, rfl⟩ : ∃ wo : World, wo = wr := ⟨_, rfl⟩
      go_loopw [8, 9] (fun nv kv wr => ∃ (j : Nat) (now : Int) (G : Int → Option Int), j ≤ n2 ∧ kv = .int .i64 j ∧ nv = .int .i64 now ∧ 0 ≤ now ∧ now ≤ 50 * (j : Int) ∧ AS wr (mb + 1) mb sb now i G i f ∧ Below W.heap.size W wr) (fun _ kv _ => n2 - (intOf kv).toNat)
      case atStart => exact ⟨0, 0, _, by omega, rfl, rfl, by omega, by omega, HA.out, hb⟩
      case round =>
        obtain ⟨j, now, G2, hj, rfl, rfl, hn0, hn1, hA, hb2⟩ := hrel
        clear HA hb
        by_cases hlt2 : j < n2
        · have p3 : decide ((j : Int) < n2) = true := decide_eq_true (by omega)
          rcases HR2.out with h0 | ⟨b, o, rfl, hbl, hcc⟩
          · omega
          have d0 : wr.cell? ⟨b, o + j, none⟩ = some (.int .i64 (g j)) := (hb2.cell (p := ⟨b, o + j, none⟩) hbl).trans (hcc j hlt2)
          obtain ⟨v, hv⟩ : ∃ v, g j = v := ⟨_, rfl⟩
          rw [hv] at d0
          have hq50 := tmod50 v
          obtain ⟨q, hq⟩ : ∃ q, v.tmod 50 = q := ⟨_, rfl⟩
          rw [hq] at hq50
          clear hv hcc
          by_cases k1 : q < 1
          · have q1 : decide (q < 1) = true := decide_eq_true k1
            have HA := Lib.hid hA
            clear hA
            go_wp2
            go_roundw
            case rel => exact ⟨j + 1, now, G2, by omega, by go_num, rfl, hn0, by omega, HA.out, hb2⟩
            case measure => simp [intOf]; omega
          · have q1 : decide (q < 1) = false := decide_eq_false k1
            have HT := Lib.hid (tick_any hA.ck hn0 (by omega) q)
            have et : tickF now q = now + q := by unfold tickF; rw [if_pos (by omega)]
            rw [et] at HT
            have HA := Lib.hid hA
            have hw : IntKind.i64.wrap (now + q) = now + q := IntWalk.i64_in _ (by omega)
            have hd1 := hA.d1
            have hd2 := hA.d2
            clear hA et
            go_wp2_with fail
            refine HT.out.mono ?_
            rintro e w4 ⟨rfl, hk4, hf4⟩
            have hs4 : ∃ c, c ≤ i ∧ Mp iKE w4 sb c (mI G2) := by obtain ⟨c, hc, hM⟩ := HA.out.sm; exact ⟨c, hc, hM.fr hf4 hd2⟩
            have hb4 := hb2.trans (hf4.below hb2.size (fun k e => by omega))
            have HD := Lib.hid (due_any hk4 (by omega))
            have HS4 := Lib.hid hs4
            have HV := Lib.hid HA.out.v
            have hw4 := hb4.size
            clear hs4 hk4 hf4 HT HA hb2 d0
            go_wp2_with fail
            refine HD.out.mono ?_
            rintro e w5 ⟨ao, cp, l, rfl, hdl, hln, hri, hk5, hf5⟩
            have hs5 : ∃ c, c ≤ i ∧ Mp iKE w5 sb c (mI (less G2 (l.take 0))) := by
              obtain ⟨c, hc, hM⟩ := HS4.out
              refine ⟨c, hc, (hM.fr hf5 hd1).congr (fun x _ => ?_)⟩
              unfold mI less
              simp
            have hb5 := hb4.trans (hf5.below hb4.size (fun k e => by omega))
            have hri5 : RowI w5 w4.heap.size ao l := hri
            have HDL := Lib.hid hdl
            have HS5 := Lib.hid hs5
            have HK5 := Lib.hid hk5
            have HRI := Lib.hid hri5
            obtain ⟨m, hm⟩ : ∃ m, l.length = m := ⟨_, rfl⟩
            rw [hm] at hln ⊢
            have HM := Lib.hid hm
            have hsb4 : sb < w4.heap.size := by obtain ⟨c, hc, hM⟩ := HS4.out; exact hM.lt
            clear hdl hri hri5 hk5 hs5 hf5 HD HS4 hb4 hm hmm
            go_wp2
            obtain ⟨N, hN⟩ : ∃ N, now + q = N := ⟨_, rfl⟩
            rw [hN] at HDL HK5 hw ⊢
            have hNb : 0 ≤ N ∧ N ≤ 50 * (j : Int) + 50 := by omega
            have hNj : N ≤ 50 * ((j + 1 : Nat) : Int) := by push_cast; omega
            have HN := Lib.hid hN
            clear hN hq hw
            go_loopw [12] (fun kv wr => ∃ k : Nat, k ≤ m ∧ kv = .int .i64 k ∧ CK wr (mb + 1) mb N i (less G2 l) ∧ (∃ c, c ≤ i ∧ Mp iKE wr sb c (mI (less G2 (l.take k)))) ∧ RowI wr w4.heap.size ao l ∧ Below W.heap.size W wr) (fun kv _ => m - (intOf kv).toNat)
            case atStart => exact ⟨0, by omega, rfl, HK5.out, HS5.out, HRI.out, hb5⟩
            case round =>
              obtain ⟨k, hk, rfl, hK6, hS6, hR6, hb6⟩ := hrel
              clear hb5 HRI HS5 HK5
              by_cases hlt3 : k < m
              · have p4 : decide ((k : Int) < m) = true := decide_eq_true (by omega)
                obtain ⟨x, hx⟩ : ∃ x, l[k]? = some x := ⟨_, List.getElem?_eq_getElem (by rw [HM.out]; exact hlt3)⟩
                rcases hR6 with h0 | ⟨gb, rfl, hgb, hcell⟩
                · have := HM.out; omega
                have hcx : wr.cell? ⟨gb, k, none⟩ = some (.int .i64 x) := hcell k x hx
                obtain ⟨hxo, t, hxt, htN⟩ := (HDL.out.2 x).1 (List.mem_of_getElem? hx)
                obtain ⟨v1, v2, v3⟩ := HV.out x t hxt
                have hnk : x ∉ l.take k := fun hin => by
                  obtain ⟨q', hq'⟩ := List.getElem?_of_mem hin
                  have hql : q' < k := by have := (List.getElem?_eq_some_iff.1 hq').1; rw [List.length_take] at this; omega
                  rw [List.getElem?_take_of_lt hql] at hq'
                  obtain ⟨e1, e2⟩ := List.getElem?_eq_some_iff.1 hq'
                  obtain ⟨e3, e4⟩ := List.getElem?_eq_some_iff.1 hx
                  have := List.pairwise_iff_getElem.1 HDL.out.1 q' k e1 e3 hql
                  rw [e2, e4] at this
                  unfold ltA at this
                  omega
                have hgl : less G2 (l.take k) x = some t := by unfold less; rw [if_neg hnk]; exact hxt
                have hlk := AS.slook hS6 hxo
                rw [hgl] at hlk
                simp only [Option.getD_some, Option.isSome_some] at hlk
                obtain ⟨w9, hrun9, hS9, hf9⟩ := AS.sdrop hS6 hxo 0
                have pt : decide (N < t) = false := decide_eq_false (by omega)
                have HX := Lib.hid hx
                have HC := Lib.hid hcell
                have HS6 := Lib.hid hS6
                have HK6 := Lib.hid hK6
                have hp1 : 0 < k → ∃ y, l[k - 1]? = some y ∧ wr.cell? ⟨gb, k - 1, none⟩ = some (.int .i64 y) ∧ 0 ≤ y ∧ y < (i : Int) ∧ (f y.toNat < t ∨ f y.toNat = t ∧ y < x) := fun h => by
                  obtain ⟨e3, e4⟩ := List.getElem?_eq_some_iff.1 hx
                  have hy : l[k - 1]? = some l[k - 1] := List.getElem?_eq_getElem (by omega)
                  obtain ⟨_, t', hyt, _⟩ := (HDL.out.2 _).1 (List.mem_of_getElem? hy)
                  obtain ⟨y1, y2, y3⟩ := HV.out _ t' hyt
                  refine ⟨_, hy, hcell _ _ hy, y1, y2, ?_⟩
                  have hlt := List.pairwise_iff_getElem.1 HDL.out.1 (k - 1) k (by omega) e3 (by omega)
                  rw [e4] at hlt
                  unfold ltA atF at hlt
                  rw [hyt, hxt] at hlt
                  simp only [Option.getD_some] at hlt
                  rw [← y3]
                  exact hlt
                have HP1 := Lib.hid hp1
                have hra : RowA wr a1 i f := by
                  rcases HR1.out with h | ⟨b', o', h1, h2', h3⟩
                  · exact .inl h
                  · exact .inr ⟨b', o', h1, Nat.lt_of_lt_of_le h2' hb6.size, fun q' hq' => (hb6.cell (p := ⟨b', o' + q', none⟩) h2').trans (h3 q' hq')⟩
                have HRA := Lib.hid hra
                clear hx hcell hS6 hK6 hp1 hra hgl hnk v3 hxt hS9 hf9 hrun9
                go_upto_region 28 with (fail)
                go_cut [135] (fun s135 wx => s135 = .bool false ∧ ∃ nd, wx = wr.drewN nd)
                case first =>
                  by_cases hk0 : 0 < k
                  · obtain ⟨y, hy, hcy, y1, y2, hord⟩ := HP1.out hk0
                    have q2 : decide (0 < (k : Int)) = true := decide_eq_true (by omega)
                    have hset : Hid (∀ n, Calls Try.prog 16 #[.slice a1 i c1, .int .i64 y] (wr.drewN n) fun e W' => e = .returned (.int .i64 (f y.toNat)) ∧ W' = wr.drewN n) := Lib.hid fun n => set0_any (wr.drewN n) a1 i c1 f HRA.out y y1 y2
                    obtain ⟨t', ht'⟩ : ∃ t', f y.toNat = t' := ⟨_, rfl⟩
                    rw [ht'] at hset hord
                    obtain ⟨q', rfl⟩ : ∃ q', k = q' + 1 := ⟨k - 1, by omega⟩
                    rw [Nat.add_sub_cancel] at hcy
                    have i1 : (q' : Int) + 1 < (m : Int) := by omega
                    have i2 : (q' : Int) < (m : Int) := by omega
                    have i3 : (0 : Int) ≤ (q' : Int) + 1 := by omega
                    have i4 : ((q' : Int) + 1).toNat = q' + 1 := by omega
                    have i5 : IntKind.i64.wrap (q' : Int) = q' := IntWalk.i64_in _ (by omega)
                    have i6 : (0 : Int) ≤ (q' : Int) := by omega
                    have q3 : decide (t < t') = false := decide_eq_false (by omega)
                    by_cases he : t = t'
                    · have q4 : (t == t') = true := by simp [he]
                      have q5 : decide (x ≤ y) = false := decide_eq_false (by omega)
                      clear hord ht' hy he
                      go_quiet ((go_at_call 16; exact Calls.quiet_of_same (hset.out _)))
                      go_wp2
                      go_meet
                      exact ⟨rfl, _, rfl⟩
                    · have q4 : (t == t') = false := by simp [he]
                      clear hord ht' hy he
                      go_quiet ((go_at_call 16; exact Calls.quiet_of_same (hset.out _)))
                      go_wp2
                      go_meet
                      exact ⟨rfl, _, rfl⟩
                  · have q2 : decide (0 < (k : Int)) = false := decide_eq_false (by omega)
                    go_quiet (fail)
                    go_wp2
                    go_meet
                    exact ⟨rfl, _, rfl⟩
                case rest =>
                  obtain ⟨rfl, nd, rfl⟩ := hcut
                  have hfd : Fr (fun _ => False) wr (wr.drewN nd) := Fr.drewN _ wr nd
                  have hS7 : ∃ c, c ≤ i ∧ Mp iKE (wr.drewN nd) sb c (mI (less G2 (l.take k))) := by obtain ⟨c, hc, hM⟩ := HS6.out; exact ⟨c, hc, hM.fr hfd id⟩
                  obtain ⟨w9, hrun9, hS9, hf9⟩ := AS.sdrop hS7 hxo 0
                  have hfg := hfd.mono (S' := fun k => k = sb) (fun _ e => e.elim)
                  have hS10 : ∃ c, c ≤ i ∧ Mp iKE w9 sb c (mI (less G2 (l.take (k + 1)))) := by
                    obtain ⟨c, hc, hM⟩ := hS9
                    refine ⟨c, hc, hM.congr (fun y _ => ?_)⟩
                    unfold mI
                    rw [less_next G2 l k x HX.out y]
                  have HS10 := Lib.hid hS10
                  have HK10 := Lib.hid ((HK6.out.kept hfd).fr hf9 (fun e => hd2 e.symm) (fun e => hd1 e.symm))
                  have hR10 : RowI w9 w4.heap.size (some ⟨gb, 0, none⟩) l := RowI.fr (.inr ⟨gb, rfl, hgb, HC.out⟩) (hfg.trans hf9) (fun k e => by omega)
                  have HR10 := Lib.hid hR10
                  have hb10 := (drewB hb6 nd).trans (hf9.below (drewB hb6 nd).size (fun k e => by omega))
                  have hcx2 : (wr.drewN nd).cell? ⟨gb, k, none⟩ = some (.int .i64 x) := hcx
                  clear hS7 hS9 hf9 hfg hS10 hR10 hfd hlk
                  go_wp2
                  go_roundw
                  case rel => exact ⟨k + 1, by omega, by go_num, HK10.out, HS10.out, HR10.out, hb10⟩
                  case measure => simp [intOf]; omega
              · obtain rfl : k = m := by omega
                have p4 : decide ((k : Int) < k) = false := decide_eq_false (by omega)
                rw [List.take_of_length_le (by rw [HM.out]; exact Nat.le_refl _)] at hS6
                obtain ⟨c, hc, D, hown, hsize, hD⟩ := hS6
                have HDD := Lib.hid hD
                have HK6 := Lib.hid hK6
                have HM6 : Hid (∃ c, c ≤ i ∧ Mp iKE wr sb c (mI (less G2 l))) := Lib.hid ⟨c, hc, D, hown, hsize, hD⟩
                have HAV := HV
                clear hK6 hR6 hD
                obtain ⟨w6, rfl⟩ : ∃ w6 : World, w6 = wr := ⟨_, rfl⟩
                go_wp2_with (at_range; refine wpList_range_own _ rfl _ 32 rfl 3 3 (int_keyed under3) Try.underlying32 rawR sb c D rfl hown ?_; intro w7 hrg7 hg7 hs7)
                go_frame
                go_loopw [16] (fun _ wz => ∃ left cnt, wz.ranges Try.prog 3 rawR sb w6.heap.size c D left cnt ∧ Fr (fun _ => False) w6 wz) (fun _ wz => wz.rangeLeft sb w6.heap.size)
                case atStart => exact ⟨_, _, hrg7, Fr.grown hg7 (fun k e => nomatch e)⟩
                case round =>
                  obtain ⟨left, cnt, hrg, hf7⟩ := hrel
                  clear hrg7 hg7 hs7
                  have HF7 := Lib.hid hf7
                  clear hf7
                  go_wp2_with (at_next; refine wpList_next_ranges _ rfl _ rfl 3 (int_keyed under3) rawR (Value.int .i64) id (fun key kl h => by obtain ⟨x, rfl, _⟩ := Maps.keyOf_int_inv under3 h; exact ⟨x, rfl⟩) (fun v y _ => ⟨v, rfl⟩) sb w6.heap.size c D left cnt rfl hrg ?_ ?_)
                  case _ =>
                    intro hc0 hl0
                    clear hc0 hl0 hown
                    go_wp2
                    go_roundw
                    case rel =>
                      refine ⟨j + 1, N, less G2 l, by omega, by go_num, rfl, by omega, hNj, ⟨HK6.out.kept HF7.out, by obtain ⟨c, hc, hM⟩ := HM6.out; exact ⟨c, hc, hM.fr HF7.out id⟩, hd1, hd2, fun x t h => ?_⟩, hb6.trans (HF7.out.below hb6.size (fun k e => e.elim))⟩
                      unfold less at h
                      split at h
                      · cases h
                      · exact HV.out x t h
                    case measure => simp [intOf]; omega
                  case _ =>
                    intro x cv kl y1 y2 w8 cnt8 hkey hlk hR hat hrg8 hlt8 hg8 hs8 hen
                    obtain ⟨hxk, t, rfl, hxt⟩ := next_val HDD.out hkey hR hat
                    have hno : ¬ t ≤ N := fun hle => by
                      unfold less at hxt
                      split at hxt
                      · cases hxt
                      · rename_i hnl
                        exact hnl ((HDL.out.2 x).2 ⟨hxk, t, hxt, hle⟩)
                    have p5 : decide (t ≤ N) = false := decide_eq_false hno
                    have HRG8 := Lib.hid hrg8
                    have HF8 : Hid (Fr (fun _ => False) w6 w8) := Lib.hid (⟨hg8.os.trans HF7.out.os, hg8.tape.trans HF7.out.tape, hg8.output.trans HF7.out.output, Nat.le_trans HF7.out.size hg8.size, fun k hk hn => (hg8.block k (Nat.lt_of_lt_of_le hk HF7.out.size) (fun e => by have := Option.some.inj e; omega)).trans (HF7.out.block k hk hn)⟩)
                    have HLT8 := Lib.hid hlt8
                    have HRG := Lib.hid hrg
                    clear hkey hlk hR hat hrg8 hg8 hs8 hxt hno hrg hlt8 hown
                    go_wp2
                    go_roundw
                    case rel => exact ⟨_, _, HRG8.out, HF8.out⟩
                    case measure => rw [HRG8.out.left_eq, HRG.out.left_eq]; exact HLT8.out
        · obtain rfl : j = n2 := by omega
          have p3 : decide ((j : Int) < j) = false := decide_eq_false (by omega)
          have HC := Lib.hid (now_any hA.ck)
          have pn : (now == now) = true := by simp
          clear hA
          go_wp2_with (go_at_call 17; refine HC.out.mono ?_; rintro e w' ⟨rfl, rfl⟩)
          go_ret
          exact ⟨rfl, hb2⟩
end Go.Proofs.Ytjcnmlfkdfpjmaa
