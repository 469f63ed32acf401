/- Each, with the closure of DedupWindow. -/
import Derived.Test.YtkodkimfoihbhaaU
set_option linter.unusedVariables false
set_option linter.unusedSimpArgs false
namespace Go.Proofs.Ytkodkimfoihbhaa
open Go.RowKit Go.Maps
variable {B0 sb lb tb mb nb ob xb wb : Nat} {win : Int} {c N : Nat} {G : Int × Int → Option (List Value)} {T : Int → Int}
/-- the counts, when the first i clients are done -/
def MA (win : Int) (G : Int × Int → Option (List Value)) (T : Int → Int) (ks : List Int) (i : Nat) : Int → Option Int := fun y => if y ∈ ks.take i then some ((sqL win G T y).length : Int) else none
def MB (win : Int) (G : Int × Int → Option (List Value)) (T : Int → Int) (ks : List Int) (i : Nat) (x : Int) (j : Nat) : Int → Option Int := fun y => if y = x then (if j = 0 then none else some (j : Int)) else MA win G T ks i y
theorem MA_zero (ks : List Int) (y : Int) : MA win G T ks 0 y = none := by simp [MA]
theorem MB_zero {ks : List Int} (hp : ks.Pairwise (· < ·)) {i : Nat} {x : Int} (h : ks[i]? = some x) (y : Int) : MA win G T ks i y = MB win G T ks i x 0 y := by
  unfold MB
  by_cases e : y = x
  · rw [if_pos e, if_pos rfl, e]
    unfold MA
    rw [if_neg]
    intro hin
    obtain ⟨q, hq⟩ := List.getElem?_of_mem hin
    have hql : q < i := by have := (List.getElem?_eq_some_iff.1 hq).1; rw [List.length_take] at this; omega
    rw [List.getElem?_take_of_lt hql] at hq
    obtain ⟨e1, e2⟩ := List.getElem?_eq_some_iff.1 hq
    obtain ⟨e3, e4⟩ := List.getElem?_eq_some_iff.1 h
    have := List.pairwise_iff_getElem.1 hp q i e1 e3 hql
    omega
  · rw [if_neg e]
theorem MB_at (ks : List Int) (i : Nat) (x : Int) (j : Nat) : MB win G T ks i x j x = if j = 0 then none else some (j : Int) := by unfold MB; rw [if_pos rfl]
theorem MB_get (ks : List Int) (i : Nat) (x : Int) (j : Nat) : (MB win G T ks i x j x).getD 0 = (j : Int) := by
  rw [MB_at]
  by_cases e : j = 0
  · rw [if_pos e, e]; rfl
  · rw [if_neg e]; rfl
theorem MB_next (ks : List Int) (i : Nat) (x : Int) (j : Nat) (y : Int) : put1 (MB win G T ks i x j) x (some ((j : Int) + 1)) y = MB win G T ks i x (j + 1) y := by
  unfold put1 MB
  by_cases e : y = x
  · rw [if_pos e, if_pos e, if_neg (by omega)]
    push_cast
    rfl
  · rw [if_neg e, if_neg e, if_neg e]
theorem MB_end {ks : List Int} {i : Nat} {x : Int} (h : ks[i]? = some x) (h0 : (sqL win G T x).length ≠ 0) (y : Int) : MB win G T ks i x (sqL win G T x).length y = MA win G T ks (i + 1) y := by
  unfold MB MA
  have hm : y ∈ ks.take (i + 1) ↔ y ∈ ks.take i ∨ y = x := by
    rw [List.take_add_one, h, List.mem_append]
    simp
  by_cases e : y = x
  · rw [if_pos e, if_neg h0, if_pos (hm.2 (.inr e)), e]
  · rw [if_neg e]
    by_cases e2 : y ∈ ks.take i
    · rw [if_pos e2, if_pos (hm.2 (.inl e2))]
    · rw [if_neg e2, if_neg (fun q => (hm.1 q).elim e2 e)]
theorem CS.congr {W : World} {k : Nat} {M M' : Int → Option Int} (h : CS W B0 sb lb tb mb nb ob xb wb win c N G T k M) (e : ∀ x, M x = M' x) : CS W B0 sb lb tb mb nb ob xb wb win c N G T k M' := by
  have : M = M' := funext e
  rw [← this]; exact h
theorem RowI.len {W : World} {B : Nat} {ao : Option Addr} {l : List Int} (h : RowI W B ao l) {j : Nat} {x : Int} (hx : l[j]? = some x) : ∃ g, ao = some ⟨g, 0, none⟩ ∧ B ≤ g ∧ W.cell? ⟨g, j, none⟩ = some (.int .i64 x) := by
  rcases h with h | ⟨g, h1, h2, h3⟩
  · have := (List.getElem?_eq_some_iff.1 hx).1
    omega
  · exact ⟨g, h1, h2, h3 j x hx⟩
def Own (mb ob : Nat) : Nat → Prop := fun q => q = mb ∨ q = ob
set_option maxRecDepth 100000 in
set_option maxHeartbeats 4000000 in
theorem each_any (W : World) (h : CS W B0 sb lb tb mb nb ob xb wb win c N G T 0 (fun _ => none)) (hN : N ≤ 100000) (TP : ∀ x, T x ≠ 0 → (G (x, T x)).isSome = true) :
    Calls Try.prog 12 #[.pointer (some ⟨sb, 0, none⟩), .func (.func 13) #[] #[.pointer (some ⟨nb, 0, none⟩), .pointer (some ⟨ob, 0, none⟩), .pointer (some ⟨xb, 0, none⟩), .pointer (some ⟨wb, 0, none⟩)]] W fun e W' =>
      e = .returned (.tuple #[]) ∧ ∃ ks, Cli T ks ∧ ks.length ≤ N ∧ CS W' B0 sb lb tb mb nb ob xb wb win c N G T ks.length (MA win G T ks ks.length) ∧ Fr (Own mb ob) W W' := by
  have hmbl : mb < W.heap.size := h.m.lt
  have hobl : ob < W.heap.size := lt_of_cell h.o
  have hown : ∀ q, Own mb ob q → q < W.heap.size := fun q hq => by rcases hq with rfl | rfl <;> assumption
  have HOWN := Lib.hid hown
  have H := Lib.hid h
  have HTP := Lib.hid TP
  have hw := h.t.w
  clear hown h TP
  go_enter Try.func12, Try.ntmps12
  go_wp2_with fail
  refine (cli_any W H.out.t (by omega)).mono ?_
  rintro e W1 ⟨ao, cp, ks, rfl, hrow, hcli, hlen, hf1⟩
  have hC1 := (H.out.kept hf1).congr (M' := MA win G T ks 0) (fun x => (MA_zero ks x).symm)
  obtain ⟨n, hn⟩ : ∃ n, ks.length = n := ⟨_, rfl⟩
  rw [hn] at hlen ⊢
  have HN := Lib.hid hn
  have HC1 := Lib.hid hC1
  have HROW := Lib.hid hrow
  have HCLI := Lib.hid hcli
  have HF1 := Lib.hid (hf1.mono (S' := Own mb ob) fun _ e => e.elim)
  clear hC1 hrow hcli hf1 hn
  go_wp2
  go_loopw [11] (fun kv wr => ∃ i : Nat, i ≤ n ∧ kv = .int .i64 i ∧ CS wr B0 sb lb tb mb nb ob xb wb win c N G T i (MA win G T ks i) ∧ RowI wr W.heap.size ao ks ∧ Fr (Own mb ob) W wr) (fun kv _ => n - (intOf kv).toNat)
  case atStart => exact ⟨0, Nat.zero_le _, rfl, HC1.out, HROW.out, HF1.out⟩
  case round =>
    obtain ⟨i, hi, rfl, hC, hR, hf⟩ := hrel
    clear HC1 HROW HF1
    by_cases hlt : i < n
    · have p0 : decide ((i : Int) < n) = true := decide_eq_true (by omega)
      obtain ⟨x, hx⟩ : ∃ x, ks[i]? = some x := ⟨_, List.getElem?_eq_getElem (by rw [HN.out]; exact hlt)⟩
      obtain ⟨g, rfl, hg, hcx⟩ := hR.len hx
      obtain ⟨hxo, hx0⟩ := (HCLI.out.2 x).1 (List.mem_of_getElem? hx)
      have HR := Lib.hid hR
      have HCC := Lib.hid hC
      have HX := Lib.hid hx
      have HF := Lib.hid hf
      have HS := Lib.hid (seqs_any wr hC.t x hxo)
      clear hR hC hx hf
      go_wp2_with fail
      refine HS.out.mono ?_
      rintro e W3 ⟨ao2, cp2, rfl, hr3, hf3⟩
      have hC3 := (HCC.out.kept hf3).congr (MB_zero HCLI.out.1 HX.out)
      have hR3 : RowI W3 W.heap.size (some ⟨g, 0, none⟩) ks := HR.out.fr hf3 (fun q e => e.elim)
      have hF3 := HF.out.trans (hf3.mono (S' := Own mb ob) fun _ e => e.elim)
      obtain ⟨l, hl⟩ : ∃ l, (sqL win G T x).length = l := ⟨_, rfl⟩
      have hTx := (H.out.t.tr x)
      have hlo := lo_rng win T x hTx hw.1
      have hlle := sqL_len win G T x
      have hlo2 : loOf win T x ≤ T x := by unfold loOf; split <;> omega
      have hl0 : l ≠ 0 := fun e => by
        have hin : T x ∈ sqL win G T x := by
          refine List.mem_filter.2 ⟨List.mem_map.2 ⟨(T x - loOf win T x).toNat, List.mem_range.2 (by omega), by omega⟩, HTP.out x hx0⟩
        rw [e] at hl
        rw [List.length_eq_zero_iff.1 hl] at hin
        simp at hin
      rw [hl] at hlle ⊢
      have hlb : l ≤ 4096 := by omega
      have HL := Lib.hid hl
      have HC3 := Lib.hid hC3
      have HR3 := Lib.hid hR3
      have HF3 := Lib.hid hF3
      have HQ3 := Lib.hid hr3
      have hwr : wr.heap.size ≤ W3.heap.size := hf3.size
      have hWr : W.heap.size ≤ wr.heap.size := HF.out.size
      clear hC3 hR3 hF3 hr3 hf3 hl HS HCC HR HF hlle hlo hTx
      go_wp2
      obtain ⟨wo, rfl⟩ : ∃ wo : World, wo = wr := ⟨_, rfl⟩
      go_loopw [19] (fun kv wr => ∃ j : Nat, j ≤ l ∧ kv = .int .i64 j ∧ CS wr B0 sb lb tb mb nb ob xb wb win c N G T (if j = 0 then i else i + 1) (MB win G T ks i x j) ∧ RowI wr W.heap.size (some ⟨g, 0, none⟩) ks ∧ RowI wr wo.heap.size ao2 (sqL win G T x) ∧ Fr (Own mb ob) W wr) (fun kv _ => l - (intOf kv).toNat)
      case atStart => exact ⟨0, Nat.zero_le _, rfl, HC3.out, HR3.out, HQ3.out, HF3.out⟩
      case round =>
        obtain ⟨j, hj, rfl, hC, hR, hQ, hf⟩ := hrel
        clear HC3 HR3 HQ3 HF3
        by_cases hlt2 : j < l
        · have p1 : decide ((j : Int) < l) = true := decide_eq_true (by omega)
          obtain ⟨y, hy⟩ : ∃ y, (sqL win G T x)[j]? = some y := ⟨_, List.getElem?_eq_getElem (by rw [HL.out]; exact hlt2)⟩
          obtain ⟨g2, rfl, hg2, hcy⟩ := hQ.len hy
          obtain ⟨y1, y2, y3⟩ := sqL_mem (List.mem_of_getElem? hy)
          have hTx := hC.t.tr x
          have hlo := lo_rng win T x hTx hw.1
          have hkk : okKey (x, y) := ⟨hxo, wf_of (by dsimp only; omega) (by dsimp only; omega)⟩
          obtain ⟨r, hr⟩ := Option.isSome_iff_exists.1 y3
          obtain ⟨v, hrun, hrb⟩ : ∃ v, (Instr.lookup 46 (.map (some lb)) (.agg #[.int .i64 x, .int .i64 y]) false).run Try.prog wr = .ok v wr ∧ RowB (Tri sb lb tb) wr v r := by
            obtain ⟨F, hM, hF⟩ := hC.t.l
            have h1 := hM.look Try.underlying46 (zero30 _) hkk
            have h2 := hF _ hkk
            rw [hr] at h2
            obtain ⟨v, e1, e2⟩ := h2
            rw [e1] at h1
            exact ⟨v, h1, e2⟩
          obtain ⟨hsm1, hsm2⟩ := hC.t.sm _ _ hr
          have HCL := Lib.hid (clone_any (Tri sb lb tb) (fun _ => False) wr v r hrb (by omega) hsm2 (fun _ e => e.elim))
          have k1 := hC.t.s.cell 1
          simp only [List.getElem?_toArray, List.getElem?_cons_zero, List.getElem?_cons_succ] at k1
          have HCC := Lib.hid hC
          have HR := Lib.hid hR
          have HQ := Lib.hid hQ
          have HF := Lib.hid hf
          have hlow : T x - win < y := by omega
          have hsz := hf.size
          clear hC hR hQ hf hy y3 hr hrb hsm1 hsm2 hkk hlo
          go_wp2_with (go_at_call 17; refine HCL.out.mono ?_; rintro e W5 ⟨v5, rfl, hrb5, hf5⟩)
          have hC5 := HCC.out.kept hf5
          have hcl := clo_any W5 hC5 (show (if j = 0 then i else i + 1) < maxLen by unfold maxLen; split <;> omega) x y v5 hxo (by rw [MB_get]; omega) y2 hlow
          rw [MB_get] at hcl
          have hcnt : (if (MB win G T ks i x j x).isSome = true then (if j = 0 then i else i + 1) else (if j = 0 then i else i + 1) + 1) = i + 1 := by
            rw [MB_at]
            by_cases e : j = 0
            · rw [if_pos e, if_pos e]; rfl
            · rw [if_neg e, if_neg e]; rfl
          rw [hcnt] at hcl
          have HCL5 := Lib.hid hcl
          have hf5' : Fr (Own mb ob) wr W5 := hf5.mono fun _ e => e.elim
          have HF5 := Lib.hid hf5'
          clear hC5 hcl hcnt hf5 hf5' hrb5 HCL k1
          refine HCL5.out.mono ?_
          rintro e W6 ⟨rfl, hC6, hf6⟩
          have hC7 := hC6.congr (MB_next ks i x j)
          have hf7 : Fr (Own mb ob) wr W6 := HF5.out.trans hf6
          have HC7 := Lib.hid hC7
          have HR7 := Lib.hid (HR.out.fr hf7 (fun q hq => HOWN.out q hq))
          have HQ7 := Lib.hid (HQ.out.fr hf7 (fun q hq => by have := HOWN.out q hq; omega))
          have HF7 := Lib.hid (HF.out.trans hf7)
          clear hC6 hf6 hC7 hf7 HCL5 HF5 HR HQ HF HCC
          go_wp2
          go_roundw
          case rel => exact ⟨j + 1, by omega, by go_num, by rw [if_neg (by omega)]; exact HC7.out, HR7.out, HQ7.out, HF7.out⟩
          case measure => simp [intOf]; omega
        · obtain rfl : j = l := by omega
          have p1 : decide ((j : Int) < j) = false := decide_eq_false (by omega)
          rw [if_neg hl0] at hC
          have hC8 := hC
          rw [← HL.out] at hC8
          have HC8 := Lib.hid (hC8.congr (MB_end HX.out (by rw [HL.out]; exact hl0)))
          have HR := Lib.hid hR
          have HF := Lib.hid hf
          clear hC hC8 hR hQ hf
          go_wp2
          go_roundw
          case rel => exact ⟨i + 1, by omega, by go_num, HC8.out, HR.out, HF.out⟩
          case measure => simp [intOf]; omega
    · obtain rfl : i = n := by omega
      have p0 : decide ((i : Int) < i) = false := decide_eq_false (by omega)
      have HCC := Lib.hid hC
      have HF := Lib.hid hf
      clear hC hf hR
      go_wp2
      go_end0
      exact ⟨rfl, ks, HCLI.out, by rw [HN.out]; exact hlen, by rw [HN.out]; exact HCC.out, HF.out⟩
end Go.Proofs.Ytkodkimfoihbhaa
