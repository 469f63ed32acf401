/- The document's looks at a history: kind, named, works, last. -/
import Derived.Test.YtbdjnfkhdphhoaaDoorJ
set_option linter.unusedVariables false
set_option linter.unusedSimpArgs false
namespace Go.Proofs.YtbdjnfkhdphhoaaDoor
open Go.RowKit Go.Maps
def rKind (l : List Ev) (at_ : Int) : Int := if at_ < 1 ∨ (l.length : Int) < at_ then 0 else match l[(at_ - 1).toNat]? with | some e => e.k | none => 0
def hitB (at_ : Int) (ks : List Int) (e : Ev) : Bool := (e.ref == at_) && ks.any (fun k => e.k == k)
def rNamed (l : List Ev) (at_ : Int) (ks : List Int) : Bool := l.any (hitB at_ ks)
def wkB (at_ : Int) (e : Ev) : Bool := (e.k == 8) && (e.ref == at_)
def rWorks (l : List Ev) (at_ : Int) : Int := match l.findIdx? (wkB at_) with | some i => (i : Int) + 1 | none => 0
def rLastN (l : List Ev) (k : Int) : Nat → Nat
  | 0 => 0
  | n + 1 => match l[n]? with | some e => if e.k = k then n + 1 else rLastN l k n | none => rLastN l k n
def rLast (l : List Ev) (k : Int) : Nat := rLastN l k l.length
theorem rKind_at {l : List Ev} {i : Nat} {e : Ev} (h : l[i]? = some e) : rKind l ((i : Int) + 1) = e.k := by
  have hi := (List.getElem?_eq_some_iff.1 h).1
  unfold rKind
  rw [if_neg (by omega), show ((i : Int) + 1 - 1).toNat = i by omega, h]
theorem rKind_out {l : List Ev} {at_ : Int} (h : at_ < 1 ∨ (l.length : Int) < at_) : rKind l at_ = 0 := if_pos h
theorem rWorks_at {l : List Ev} {at_ : Int} {i : Nat} {e : Ev} (h : l[i]? = some e) (hw : wkB at_ e = true) (hn : ∀ j e', j < i → l[j]? = some e' → wkB at_ e' = false) : rWorks l at_ = (i : Int) + 1 := by
  obtain ⟨hi, he⟩ := List.getElem?_eq_some_iff.1 h
  have : l.findIdx? (wkB at_) = some i := by
    rw [List.findIdx?_eq_some_iff_getElem]
    refine ⟨hi, by rw [he]; exact hw, fun j hj => ?_⟩
    have := hn j l[j] hj (List.getElem?_eq_getElem (by omega))
    simp [this]
  unfold rWorks
  rw [this]
theorem rWorks_no {l : List Ev} {at_ : Int} (hn : ∀ (j : Nat) (e' : Ev), l[j]? = some e' → wkB at_ e' = false) : rWorks l at_ = 0 := by
  have : l.findIdx? (wkB at_) = none := by
    rw [List.findIdx?_eq_none_iff]
    intro e he
    obtain ⟨j, hj⟩ := List.getElem?_of_mem he
    exact hn j e hj
  unfold rWorks
  rw [this]
theorem rNamed_yes {l : List Ev} {at_ : Int} {ks : List Int} {e : Ev} (he : e ∈ l) (h : hitB at_ ks e = true) : rNamed l at_ ks = true := List.any_eq_true.2 ⟨e, he, h⟩
theorem rNamed_no {l : List Ev} {at_ : Int} {ks : List Int} (h : ∀ (j : Nat) (e : Ev), l[j]? = some e → hitB at_ ks e = false) : rNamed l at_ ks = false := by
  rw [Bool.eq_false_iff]
  intro ht
  obtain ⟨e, he, hh⟩ := List.any_eq_true.1 ht
  obtain ⟨j, hj⟩ := List.getElem?_of_mem he
  rw [h j e hj] at hh
  cases hh
theorem RowV.at_ {W : World} {ao : Option Addr} {l : List Ev} {i : Nat} {e : Ev} (h : RowV W ao l) (he : l[i]? = some e) : ∃ b o, ao = some ⟨b, o, none⟩ ∧ ∀ w', Fr (fun _ => False) W w' → ∀ j v, (evc e)[j]? = some v → w'.cell? ⟨b, o + i * 7 + j, none⟩ = some v := by
  rcases h with h | ⟨b, o, h1, h2, h3⟩
  · rw [h] at he; simp at he
  · exact ⟨b, o, h1, fun w' hf j v hj => (World.cell?_of_block (hf.block b h2 id)).trans (h3 i e he j v hj)⟩
set_option maxRecDepth 100000 in
set_option maxHeartbeats 1000000 in
theorem rkind_any (W : World) (ao : Option Addr) (cp : Nat) (l : List Ev) (hl : RowV W ao l) (hn : l.length ≤ 100000) (at_ : Int) : Calls Tryd.prog 50 #[.slice ao l.length cp, .int .i64 at_] W fun r W' => r = .returned (.int .i64 (rKind l at_)) ∧ Fr (fun _ => False) W W' := by
  obtain ⟨n, hnl⟩ : ∃ n, l.length = n := ⟨_, rfl⟩
  by_cases h1 : at_ < 1
  · rw [rKind_out (.inl h1), hnl]
    have p1 : decide (at_ < 1) = true := decide_eq_true h1
    clear hl hn hnl
    go_enter Tryd.func50, Tryd.ntmps50
    go_wp2
    go_ret
    exact ⟨rfl, Fr.refl _ _⟩
  have p1 : decide (at_ < 1) = false := decide_eq_false h1
  by_cases h2 : (l.length : Int) < at_
  · rw [rKind_out (.inr h2), hnl]
    rw [hnl] at h2
    have p2 : decide ((n : Int) < at_) = true := decide_eq_true h2
    clear hl hn hnl
    go_enter Tryd.func50, Tryd.ntmps50
    go_wp2
    go_ret
    exact ⟨rfl, Fr.refl _ _⟩
  obtain ⟨i, rfl⟩ : ∃ i : Nat, at_ = (i : Int) + 1 := ⟨(at_ - 1).toNat, by omega⟩
  obtain ⟨e, he⟩ : ∃ e, l[i]? = some e := ⟨_, List.getElem?_eq_getElem (by omega)⟩
  rw [rKind_at he]
  rw [hnl] at h2 hn ⊢
  have p2 : decide ((n : Int) < (i : Int) + 1) = false := decide_eq_false h2
  obtain ⟨b, o, rfl, hc⟩ := hl.at_ he
  have c0 : W.cell? ⟨b, o + i * 7, none⟩ = some (.int .i64 e.k) := hc W (Fr.refl _ _) 0 _ rfl
  have hin : i < n := by omega
  clear hl hc he hnl h1 h2
  go_enter Tryd.func50, Tryd.ntmps50
  go_wp2
  go_ret
  exact ⟨rfl, Fr.refl _ _⟩
set_option maxRecDepth 100000 in
set_option maxHeartbeats 2000000 in
theorem rlast_any (W : World) (ao : Option Addr) (cp : Nat) (l : List Ev) (hl : RowV W ao l) (hn : l.length ≤ 100000) (k : Int) : Calls Tryd.prog 52 #[.slice ao l.length cp, .int .i64 k] W fun r W' => r = .returned (.int .i64 (rLast l k : Nat)) ∧ Fr (fun _ => False) W W' := by
  obtain ⟨n, hnl⟩ : ∃ n, l.length = n := ⟨_, rfl⟩
  obtain ⟨r, hr⟩ : ∃ r, rLast l k = r := ⟨_, rfl⟩
  rw [hr]
  unfold rLast at hr
  rw [hnl] at hr hn ⊢
  have HNL := Lib.hid hnl
  have HR := Lib.hid hr
  have HROW := Lib.hid hl
  have HN := Lib.hid hn
  clear hnl hr hl hn
  go_enter Tryd.func52, Tryd.ntmps52
  go_wp2_with fail
  go_loopw [5] (fun iv wr => ∃ i : Nat, i ≤ n ∧ iv = .int .i64 i ∧ rLastN l k i = r ∧ Fr (fun _ => False) W wr) (fun iv _ => (intOf iv).toNat)
  case atStart => exact ⟨n, Nat.le_refl _, rfl, HR.out, Fr.refl _ _⟩
  case round =>
    obtain ⟨i, hi, rfl, hri, hf⟩ := hrel
    have HRI := Lib.hid hri
    have HF := Lib.hid hf
    clear hri hf
    cases i with
    | zero =>
      have hr0 : r = 0 := by rw [← HRI.out]; rfl
      have HR0 := Lib.hid hr0
      clear hr0
      go_wp2
      go_ret
      exact ⟨by rw [HR0.out]; rfl, HF.out⟩
    | succ j =>
      have p0 : decide (0 < (((j + 1 : Nat)) : Int)) = true := decide_eq_true (by omega)
      obtain ⟨e, he⟩ : ∃ e, l[j]? = some e := ⟨_, List.getElem?_eq_getElem (by rw [HNL.out]; omega)⟩
      have HE := Lib.hid he
      obtain ⟨b, o, rfl, hc⟩ := HROW.out.at_ he
      have c0 : wr.cell? ⟨b, o + j * 7, none⟩ = some (.int .i64 e.k) := hc wr HF.out 0 _ rfl
      have hjn : j < n := by omega
      have hnn := HN.out
      clear hc he
      have hstep : rLastN l k (j + 1) = if e.k = k then j + 1 else rLastN l k j := by
        show (match l[j]? with | some e => if e.k = k then j + 1 else rLastN l k j | none => rLastN l k j) = _
        rw [HE.out]
      have HSTEP := Lib.hid hstep
      clear hstep
      by_cases h1 : e.k = k
      · have p1 : (e.k == k) = true := by simp [h1]
        have HH := Lib.hid h1
        clear h1
        go_wp2
        go_ret
        have := HSTEP.out
        rw [if_pos HH.out, HRI.out] at this
        exact ⟨by rw [this]; rfl, HF.out⟩
      · have p1 : (e.k == k) = false := by simp [h1]
        have HH := Lib.hid h1
        clear h1
        go_wp2
        go_roundw
        case rel =>
          have := HSTEP.out
          rw [if_neg HH.out, HRI.out] at this
          exact ⟨j, by omega, rfl, this.symm, HF.out⟩
        case measure => simp [intOf]
set_option maxRecDepth 100000 in
set_option maxHeartbeats 2000000 in
theorem rworks_any (W : World) (ao : Option Addr) (cp : Nat) (l : List Ev) (hl : RowV W ao l) (hn : l.length ≤ 100000) (at_ : Int) : Calls Tryd.prog 51 #[.slice ao l.length cp, .int .i64 at_] W fun r W' => r = .returned (.int .i64 (rWorks l at_)) ∧ Fr (fun _ => False) W W' := by
  obtain ⟨n, hnl⟩ : ∃ n, l.length = n := ⟨_, rfl⟩
  obtain ⟨r, hr⟩ : ∃ r, rWorks l at_ = r := ⟨_, rfl⟩
  rw [hr]
  rw [hnl] at hn ⊢
  have HNL := Lib.hid hnl
  have HR := Lib.hid hr
  have HROW := Lib.hid hl
  have HN := Lib.hid hn
  clear hnl hr hl hn
  go_enter Tryd.func51, Tryd.ntmps51
  go_wp2_with fail
  go_loopw [5] (fun iv wr => ∃ i : Nat, i ≤ n ∧ iv = .int .i64 i ∧ (∀ (j : Nat) (e : Ev), j < i → l[j]? = some e → wkB at_ e = false) ∧ Fr (fun _ => False) W wr) (fun iv _ => n - (intOf iv).toNat)
  case atStart => exact ⟨0, Nat.zero_le _, rfl, fun j e hj => by omega, Fr.refl _ _⟩
  case round =>
    obtain ⟨i, hi, rfl, hb, hf⟩ := hrel
    have HBF := Lib.hid hb
    have HF := Lib.hid hf
    clear hb hf
    have hnn := HN.out
    by_cases hlt : i < n
    · have p0 : decide ((i : Int) < n) = true := decide_eq_true (by omega)
      obtain ⟨e, he⟩ : ∃ e, l[i]? = some e := ⟨_, List.getElem?_eq_getElem (by rw [HNL.out]; exact hlt)⟩
      have HE := Lib.hid he
      obtain ⟨b, o, rfl, hc⟩ := HROW.out.at_ he
      have c0 : wr.cell? ⟨b, o + i * 7, none⟩ = some (.int .i64 e.k) := hc wr HF.out 0 _ rfl
      have c2 : wr.cell? ⟨b, o + i * 7 + 2, none⟩ = some (.int .i64 e.ref) := hc wr HF.out 2 _ rfl
      clear hc he
      have NEXT : Hid (wkB at_ e = false → ∀ (j : Nat) (e' : Ev), j < i + 1 → l[j]? = some e' → wkB at_ e' = false) := Lib.hid (fun hw j e' hj he' => by
        by_cases hji : j = i
        · subst hji
          rw [HE.out] at he'
          cases he'
          exact hw
        · exact HBF.out j e' (by omega) he')
      by_cases h1 : e.k = 8
      · have p1 : (e.k == 8) = true := by simp [h1]
        have HH := Lib.hid h1
        clear h1
        by_cases h2 : e.ref = at_
        · have p2 : (e.ref == at_) = true := by simp [h2]
          have HH2 := Lib.hid h2
          clear h2
          go_wp2
          go_ret
          have := rWorks_at HE.out (by simp [wkB, HH.out, HH2.out]) HBF.out
          exact ⟨by rw [← HR.out, this]; rfl, HF.out⟩
        · have p2 : (e.ref == at_) = false := by simp [h2]
          have HW := Lib.hid (NEXT.out (by simp [wkB, h2]))
          clear h2
          go_wp2
          go_roundw
          case rel => exact ⟨i + 1, by omega, by go_num, HW.out, HF.out⟩
          case measure => simp [intOf]; omega
      · have p1 : (e.k == 8) = false := by simp [h1]
        have HW := Lib.hid (NEXT.out (by simp [wkB, h1]))
        clear h1
        go_wp2
        go_roundw
        case rel => exact ⟨i + 1, by omega, by go_num, HW.out, HF.out⟩
        case measure => simp [intOf]; omega
    · obtain rfl : i = n := by omega
      have p0 : decide ((i : Int) < i) = false := decide_eq_false (by omega)
      have HZ := Lib.hid (rWorks_no (l := l) (at_ := at_) (fun j e hj => HBF.out j e (by have := (List.getElem?_eq_some_iff.1 hj).1; have := HNL.out; omega) hj))
      go_wp2
      go_ret
      exact ⟨by rw [← HR.out, HZ.out]; rfl, HF.out⟩
/-- kinds, as a slice shows them -/
def KRow (W : World) (kb : Nat) (ks : List Int) : Prop := kb < W.heap.size ∧ ∀ j k, ks[j]? = some k → W.cell? ⟨kb, j, none⟩ = some (.int .i64 k)
theorem KRow.fr {W W' : World} {kb : Nat} {ks : List Int} (h : KRow W kb ks) (hf : Fr (fun _ => False) W W') : KRow W' kb ks :=
  ⟨Nat.lt_of_lt_of_le h.1 hf.size, fun j k hk => (World.cell?_of_block (hf.block kb h.1 id)).trans (h.2 j k hk)⟩
theorem KRow.new (W : World) (ks : List Int) (cs : Array Value) (hcs : cs = (ks.map (Value.int .i64)).toArray) : KRow (W.alloc (.cells cs 3)) W.heap.size ks := by
  subst hcs
  refine ⟨by simp, fun j k hk => ?_⟩
  rw [(Blk.new W 3 _).cell]
  simp [hk]
set_option maxRecDepth 100000 in
set_option maxHeartbeats 4000000 in
theorem rnamed_any (W : World) (ao : Option Addr) (cp : Nat) (l : List Ev) (hl : RowV W ao l) (hn : l.length ≤ 100000) (at_ : Int) (kb m : Nat) (ks : List Int) (hk : KRow W kb ks) (hm : ks.length = m) (hm1 : m ≤ 10) : Calls Tryd.prog 53 #[.slice ao l.length cp, .int .i64 at_, .slice (some ⟨kb, 0, none⟩) m m] W fun r W' => r = .returned (.bool (rNamed l at_ ks)) ∧ Fr (fun _ => False) W W' := by
  obtain ⟨n, hnl⟩ : ∃ n, l.length = n := ⟨_, rfl⟩
  obtain ⟨r, hr⟩ : ∃ r, rNamed l at_ ks = r := ⟨_, rfl⟩
  rw [hr]
  rw [hnl] at hn ⊢
  have HNL := Lib.hid hnl
  have HR := Lib.hid hr
  have HROW := Lib.hid hl
  have HK := Lib.hid hk
  have HM := Lib.hid hm
  have HN := Lib.hid (And.intro hn hm1)
  clear hnl hr hl hn hk hm hm1
  go_enter Tryd.func53, Tryd.ntmps53
  go_wp2_with fail
  go_loopw [7, 8] (fun iv kv wr => ∃ i : Nat, i ≤ n ∧ iv = .int .i64 i ∧ (∀ (j : Nat) (e : Ev), j < i → l[j]? = some e → hitB at_ ks e = false) ∧ Fr (fun _ => False) W wr) (fun iv _ _ => n - (intOf iv).toNat)
  case atStart => exact ⟨0, Nat.zero_le _, rfl, fun j e hj => by omega, Fr.refl _ _⟩
  case round =>
    obtain ⟨i, hi, rfl, hb, hf⟩ := hrel
    have HBF := Lib.hid hb
    have HF := Lib.hid hf
    clear hb hf
    have hnn := HN.out
    by_cases hlt : i < n
    · have p0 : decide ((i : Int) < n) = true := decide_eq_true (by omega)
      obtain ⟨e, he⟩ : ∃ e, l[i]? = some e := ⟨_, List.getElem?_eq_getElem (by rw [HNL.out]; exact hlt)⟩
      have HE := Lib.hid he
      obtain ⟨b, o, rfl, hc⟩ := HROW.out.at_ he
      have HCC := Lib.hid hc
      clear hc he
      have HI := Lib.hid (And.intro hi hlt)
      go_wp2_with fail
      go_loopw [8] (fun kv wz => ∃ j : Nat, j ≤ m ∧ kv = .int .i64 j ∧ (∀ (x : Nat) (k : Int), x < j → ks[x]? = some k → (e.ref == at_ && e.k == k) = false) ∧ Fr (fun _ => False) W wz) (fun kv _ => m - (intOf kv).toNat)
      case atStart => exact ⟨0, Nat.zero_le _, rfl, fun x k hx => by omega, HF.out⟩
      case round =>
        obtain ⟨j, hj, rfl, hbk, hfz⟩ := hrel
        have HBK := Lib.hid hbk
        have HFZ := Lib.hid hfz
        clear hbk hfz
        by_cases hjl : j < m
        · have p1 : decide ((j : Int) < m) = true := decide_eq_true (by omega)
          obtain ⟨k, hkk⟩ : ∃ k, ks[j]? = some k := ⟨_, List.getElem?_eq_getElem (by rw [HM.out]; exact hjl)⟩
          have HKK := Lib.hid hkk
          have ck : wr.cell? ⟨kb, j, none⟩ = some (.int .i64 k) := (HK.out.fr HFZ.out).2 j k hkk
          have c0 : wr.cell? ⟨b, o + i * 7, none⟩ = some (.int .i64 e.k) := HCC.out wr HFZ.out 0 _ rfl
          have c2 : wr.cell? ⟨b, o + i * 7 + 2, none⟩ = some (.int .i64 e.ref) := HCC.out wr HFZ.out 2 _ rfl
          clear hkk
          have NEXT : Hid ((e.ref == at_ && e.k == k) = false → ∀ (x : Nat) (k' : Int), x < j + 1 → ks[x]? = some k' → (e.ref == at_ && e.k == k') = false) := Lib.hid (fun hw x k' hx hk' => by
            by_cases hxj : x = j
            · subst hxj
              rw [HKK.out] at hk'
              cases hk'
              exact hw
            · exact HBK.out x k' (by omega) hk')
          by_cases h1 : e.ref = at_
          · have p2 : (e.ref == at_) = true := by simp [h1]
            have HH1 := Lib.hid h1
            clear h1
            by_cases h2 : e.k = k
            · have p3 : (e.k == k) = true := by simp [h2]
              have HH2 := Lib.hid h2
              clear h2
              go_upto_region 7 with (fail)
              go_quiet (fail)
              go_wp2
              go_ret
              have hy := rNamed_yes (at_ := at_) (ks := ks) (List.mem_of_getElem? HE.out) (by
                simp only [hitB, Bool.and_eq_true, beq_iff_eq, List.any_eq_true]
                exact ⟨HH1.out, k, List.mem_of_getElem? HKK.out, HH2.out⟩)
              exact ⟨by rw [← HR.out, hy]; rfl, HFZ.out.trans (Fr.drewN _ _ _)⟩
            · have p3 : (e.k == k) = false := by simp [h2]
              have HW := Lib.hid (NEXT.out (by simp [h2]))
              clear h2
              go_upto_region 7 with (fail)
              go_quiet (fail)
              go_wp2
              go_roundw
              case rel => exact ⟨j + 1, by omega, by go_num, HW.out, HFZ.out.trans (Fr.drewN _ _ _)⟩
              case measure => simp [intOf]; omega
          · have p2 : (e.ref == at_) = false := by simp [h1]
            have HW := Lib.hid (NEXT.out (by simp [h1]))
            clear h1
            go_upto_region 7 with (fail)
            go_quiet (fail)
            go_wp2
            go_roundw
            case rel => exact ⟨j + 1, by omega, by go_num, HW.out, HFZ.out.trans (Fr.drewN _ _ _)⟩
            case measure => simp [intOf]; omega
        · obtain rfl : j = m := by omega
          have p1 : decide ((j : Int) < j) = false := decide_eq_false (by omega)
          have HW : Hid (hitB at_ ks e = false) := Lib.hid (by
            rw [Bool.eq_false_iff]
            intro hh
            simp only [hitB, Bool.and_eq_true, beq_iff_eq, List.any_eq_true] at hh
            obtain ⟨h1, k, hk, h2⟩ := hh
            obtain ⟨x, hx⟩ := List.getElem?_of_mem hk
            have := HBK.out x k (by have := (List.getElem?_eq_some_iff.1 hx).1; have := HM.out; omega) hx
            simp [h1, h2] at this)
          go_wp2
          go_roundw
          case rel =>
            refine ⟨i + 1, by omega, by go_num, fun x e' hx hx' => ?_, HFZ.out⟩
            by_cases hxi : x = i
            · subst hxi
              rw [HE.out] at hx'
              cases hx'
              exact HW.out
            · exact HBF.out x e' (by omega) hx'
          case measure => simp [intOf]; omega
    · obtain rfl : i = n := by omega
      have p0 : decide ((i : Int) < i) = false := decide_eq_false (by omega)
      have HZ := Lib.hid (rNamed_no (l := l) (at_ := at_) (ks := ks) (fun j e hj => HBF.out j e (by have := (List.getElem?_eq_some_iff.1 hj).1; have := HNL.out; omega) hj))
      go_wp2
      go_ret
      exact ⟨by rw [← HR.out, HZ.out]; rfl, HF.out⟩
end Go.Proofs.YtbdjnfkhdphhoaaDoor
