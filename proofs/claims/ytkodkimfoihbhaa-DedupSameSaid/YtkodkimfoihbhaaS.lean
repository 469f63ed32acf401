/- Two tables side by side; what the puts keep. -/
import Derived.Test.YtkodkimfoihbhaaE
import Derived.Test.YtkodkimfoihbhaaX
import Derived.Test.YtkodkimfoihbhaaH
import Derived.Test.YtkodkimfoihbhaaO
set_option linter.unusedVariables false
set_option linter.unusedSimpArgs false
namespace Go.Proofs.Ytkodkimfoihbhaa
open Go.RowKit Go.Maps Go.ChangeShapes Go.WideShapes Go.ChangeAt
theorem and3 (x : Int) : 0 ≤ bits .and .i64 x 3 ∧ bits .and .i64 x 3 ≤ 3 := by
  obtain ⟨n, hn, h⟩ : ∃ n : Nat, n ≤ 3 ∧ bits .and .i64 x 3 = IntKind.i64.wrap (n : Int) := by
    refine ⟨(BitVec.ofInt 64 x &&& BitVec.ofInt 64 3).toNat, ?_, rfl⟩
    rw [BitVec.toNat_and]
    exact Nat.le_trans Nat.and_le_right (by decide)
  rw [h, IntWalk.i64_in _ (by omega)]
  omega
theorem nocell {P : Program} {k : TypeId} {κ : Type} [DecidableEq κ] {E : KE P k κ} {W : World} {b c : Nat} {F : κ → Option Value} {a : Addr} {v : Value} (h : Mp E W b c F) (hc : W.cell? a = some v) : a.block ≠ b := by
  rintro rfl
  obtain ⟨D, ⟨es, clock, hb, _⟩, _⟩ := h
  simp [World.cell?, hb] at hc
variable {sb lb tb sb' lb' tb' : Nat} {win win' : Int} {c N c' N' : Nat} {G G' : Int × Int → Option (List Value)} {T T' : Int → Int}
/-- another table's maps turn: this one stays -/
theorem TB.beside {W W' : World} (h : TB W sb lb tb win c N G T) (k : TB W sb' lb' tb' win' c' N' G' T') (hf : Fr (Two lb' tb') W W') (hd : ∀ x, x = lb' ∨ x = tb' → x ≠ sb ∧ x ≠ lb ∧ x ≠ tb) : TB W' sb lb tb win c N G T := by
  obtain ⟨F, h1, h2⟩ := h.l
  obtain ⟨c1, F1, h3, h4, h5⟩ := h.t
  obtain ⟨Fk, k1, _⟩ := k.l
  obtain ⟨c2, F2, _, k4, _⟩ := k.t
  have hn : ∀ x, Two lb' tb' x → x ≠ sb ∧ x ≠ lb ∧ x ≠ tb := fun x hx => hd x hx
  refine ⟨h.s.fr hf (fun e => (hn sb e).1 rfl), h.d, ⟨F, h1.fr hf (fun e => (hn lb e).2.1 rfl), fun x hx => ?_⟩, ⟨c1, F1, h3, h4.fr hf (fun e => (hn tb e).2.2 rfl), h5⟩, h.tr, h.w, h.sm⟩
  have h6 := h2 x hx
  unfold Ent at h6 ⊢
  cases hg : G x with
  | none => rw [hg] at h6; exact h6
  | some r =>
    rw [hg] at h6
    obtain ⟨v, e1, ao, cap, e2, e3, e4, e5, e6⟩ := h6
    refine ⟨v, e1, ao, cap, e2, e3, e4, e5, fun a ha => ⟨(e6 a ha).1, fun j u hj => ?_⟩⟩
    have hcell := (e6 a ha).2 j u hj
    have hb := hf.block (a.add j).block (lt_of_cell hcell) (fun e => by rcases e with e | e; exact nocell k1 hcell e; exact nocell k4 hcell e)
    exact (World.cell?_of_block hb).trans hcell
/-- the acts as a list -/
def actL (p : Play) (n : Nat) : List Ac := (List.range n).map (fun j => (p.cl j, p.sq j, p.by_ j))
theorem actL_at (p : Play) {n i : Nat} (h : i < n) : (actL p n)[i]? = some (p.cl i, p.sq i, p.by_ i) := by
  unfold actL
  rw [List.getElem?_map, List.getElem?_range h]; rfl
theorem actL_len (p : Play) (n : Nat) : (actL p n).length = n := by simp [actL]
theorem take_snoc {α : Type} {l : List α} {i : Nat} {x : α} (h : l[i]? = some x) : l.take (i + 1) = l.take i ++ [x] := by rw [List.take_add_one, h]; rfl
theorem filter_snoc {α : Type} {l : List α} {i : Nat} {x : α} (f : α → Bool) (h : l[i]? = some x) : (l.take (i + 1)).filter f = (l.take i).filter f ++ (if f x = true then [x] else []) := by
  rw [take_snoc h, List.filter_append]
  congr 1
  simp [List.filter]
  cases f x <;> rfl
/-- nothing yet -/
def S0 : St := (fun _ => none, fun _ => 0)
/-- what each state holds -/
structure Ok (S : St) : Prop where
  byt : Byt S.1
  cli : ∀ x, S.2 x ≠ 0 → 0 ≤ x ∧ x ≤ 1048576
theorem Ok.start : Ok S0 := ⟨fun x r h => (by cases h), fun x h => absurd rfl h⟩
theorem Ok.step {S : St} {a : Ac} (h : Ok S) (ha : ∃ bs, a.2.2 = zb bs) : Ok (stepG win S a) := by
  constructor
  · intro k r hr
    have hr' : Gput win S.1 S.2 a.1 a.2.1 a.2.2 k = some r := hr
    unfold Gput at hr'
    have hu : ∀ r, updG S.1 (a.1, a.2.1) (some a.2.2) k = some r → ∃ bs, r = zb bs := fun r h2 => by
      unfold updG at h2
      split at h2
      · cases h2; exact ha
      · exact h.byt _ _ h2
    split at hr'
    · split at hr'
      · unfold del at hr'
        split at hr'
        · cases hr'
        · exact hu _ hr'
      · exact hu _ hr'
    · exact h.byt _ _ hr'
  · intro x hx
    have hx' : Tput win S.1 S.2 a.1 a.2.1 x ≠ 0 := hx
    unfold Tput at hx'
    split at hx'
    · rename_i hc
      split at hx'
      · unfold updT at hx'
        split at hx'
        · rename_i e
          subst e
          have hb : ¬ Bad a.1 a.2.1 := fun hb => by
            unfold code at hc
            rw [if_pos hb] at hc
            cases hc
          unfold Bad at hb
          omega
        · exact h.cli _ hx'
      · exact h.cli _ hx'
    · exact h.cli _ hx'
theorem Ok.runs : ∀ (l : List Ac) {S : St}, Ok S → (∀ a ∈ l, ∃ bs, a.2.2 = zb bs) → Ok (runs win S l)
  | [], S, h, _ => h
  | a :: l, S, h, hl => Ok.runs l (h.step (hl a List.mem_cons_self)) (fun b hb => hl b (List.mem_cons_of_mem _ hb))
/-- the groups ahead -/
def gl (t : Int) (l : List Ac) : Nat → List Ac
  | 0 => []
  | k + 1 => gl t l k ++ l.filter (grp t (k : Int))
theorem gl_three (t : Int) (l : List Ac) : gl t l 3 = l.filter (grp t 0) ++ l.filter (grp t 1) ++ l.filter (grp t 2) := by
  show (([] ++ l.filter (grp t ((0 : Nat) : Int))) ++ l.filter (grp t ((1 : Nat) : Int))) ++ l.filter (grp t ((2 : Nat) : Int)) = _
  rw [List.nil_append]
  rfl
/-- two tables -/
structure TT (W0 W : World) (A B : Nat × Nat × Nat) (win : Int) (n : Nat) (SA SB : St) : Prop where
  a : ∃ c N, c ≤ n ∧ N ≤ n ∧ TB W A.1 A.2.1 A.2.2 win c N SA.1 SA.2
  b : ∃ c N, c ≤ n ∧ N ≤ n ∧ TB W B.1 B.2.1 B.2.2 win c N SB.1 SB.2
  f : Fr (From W0.heap.size) W0 W
  d : ∀ x, x = A.1 ∨ x = A.2.1 ∨ x = A.2.2 → W0.heap.size ≤ x ∧ x ≠ B.1 ∧ x ≠ B.2.1 ∧ x ≠ B.2.2
  d2 : ∀ x, x = B.1 ∨ x = B.2.1 ∨ x = B.2.2 → W0.heap.size ≤ x
theorem TT.fr0 {W0 W W' : World} {A B : Nat × Nat × Nat} {n : Nat} {SA SB : St} (h : TT W0 W A B win n SA SB) (hf : Fr (fun _ => False) W W') : TT W0 W' A B win n SA SB := by
  obtain ⟨c, N, h1, h2, h3⟩ := h.a
  obtain ⟨c', N', h4, h5, h6⟩ := h.b
  exact ⟨⟨c, N, h1, h2, h3.fr hf⟩, ⟨c', N', h4, h5, h6.fr hf⟩, h.f.trans (hf.mono fun _ e => e.elim), h.d, h.d2⟩
theorem TT.more {W0 W : World} {A B : Nat × Nat × Nat} {n n' : Nat} {SA SB : St} (h : TT W0 W A B win n SA SB) (hn : n ≤ n') : TT W0 W A B win n' SA SB := by
  obtain ⟨c, N, h1, h2, h3⟩ := h.a
  obtain ⟨c', N', h4, h5, h6⟩ := h.b
  exact ⟨⟨c, N, by omega, by omega, h3⟩, ⟨c', N', by omega, by omega, h6⟩, h.f, h.d, h.d2⟩
theorem row_far {W0 W : World} {sb lb tb : Nat} {v : Value} {r : List Value} (h : RowB (From W0.heap.size) W v r) (hd : ∀ x, x = sb ∨ x = lb ∨ x = tb → W0.heap.size ≤ x) : RowB (Tri sb lb tb) W v r :=
  RowB.to h (fun k _ hk => hd k hk)
/-- a Put into the first -/
theorem TT.putA {W0 W : World} {A B : Nat × Nat × Nat} {n : Nat} {SA SB : St} (h : TT W0 W A B win n SA SB) (hn : n ≤ 1000) (x y : Int) (v : Value) (r : List Value) (hr : RowB (From W0.heap.size) W v r) (hs : r.length ≤ 8192 ∧ ∀ u ∈ r, u.oneCell' = true) :
    Calls Try.prog 9 #[.pointer (some ⟨A.1, 0, none⟩), .int .i64 x, .int .i64 y, v] W fun e W' => ∃ u, e = .returned u ∧ TT W0 W' A B win (n + 1) (stepG win SA (x, y, r)) SB := by
  obtain ⟨c, N, h1, h2, h3⟩ := h.a
  obtain ⟨c', N', h4, h5, h6⟩ := h.b
  refine (put_any W h3 (by omega) (by omega) x y v r (row_far hr (fun z hz => (h.d z hz).1)) hs).mono ?_
  rintro e W' ⟨rfl, hB, hf⟩
  have hcl := Cput_le win c SA.1 SA.2 x y r
  refine ⟨_, rfl, ⟨_, _, by omega, by omega, hB⟩, ⟨c', N', by omega, by omega, h6.beside h3 hf (fun z hz => ?_)⟩, h.f.trans (hf.mono (fun z hz => ?_)), h.d, h.d2⟩
  · have := (h.d z (by rcases hz with e | e <;> simp [e])).2
    exact this
  · have := (h.d z (by rcases hz with e | e <;> simp [e])).1
    exact this
/-- a Put into the second -/
theorem TT.putB {W0 W : World} {A B : Nat × Nat × Nat} {n : Nat} {SA SB : St} (h : TT W0 W A B win n SA SB) (hn : n ≤ 1000) (x y : Int) (v : Value) (r : List Value) (hr : RowB (From W0.heap.size) W v r) (hs : r.length ≤ 8192 ∧ ∀ u ∈ r, u.oneCell' = true) :
    Calls Try.prog 9 #[.pointer (some ⟨B.1, 0, none⟩), .int .i64 x, .int .i64 y, v] W fun e W' => ∃ u, e = .returned u ∧ TT W0 W' A B win (n + 1) SA (stepG win SB (x, y, r)) := by
  obtain ⟨c, N, h1, h2, h3⟩ := h.b
  obtain ⟨c', N', h4, h5, h6⟩ := h.a
  refine (put_any W h3 (by omega) (by omega) x y v r (row_far hr (fun z hz => h.d2 z hz)) hs).mono ?_
  rintro e W' ⟨rfl, hB, hf⟩
  have hcl := Cput_le win c SB.1 SB.2 x y r
  refine ⟨_, rfl, ⟨c', N', by omega, by omega, h6.beside h3 hf (fun z hz => ?_)⟩, ⟨_, _, by omega, by omega, hB⟩, h.f.trans (hf.mono (fun z hz => ?_)), h.d, h.d2⟩
  · refine ⟨fun e => ?_, fun e => ?_, fun e => ?_⟩
    · have := (h.d z (.inl e)).2; rcases hz with q | q; exact this.2.1 q; exact this.2.2 q
    · have := (h.d z (.inr (.inl e))).2; rcases hz with q | q; exact this.2.1 q; exact this.2.2 q
    · have := (h.d z (.inr (.inr e))).2; rcases hz with q | q; exact this.2.1 q; exact this.2.2 q
  · exact h.d2 z (by rcases hz with e | e <;> simp [e])
theorem Cli.eq {T : Int → Int} {k1 k2 : List Int} (h1 : Cli T k1) (h2 : Cli T k2) : k1 = k2 :=
  (List.perm_ext_iff_of_nodup (h1.1.imp (fun h => Int.ne_of_lt h)) (h2.1.imp (fun h => Int.ne_of_lt h))).2 (fun x => by rw [h1.2, h2.2]) |>.eq_of_pairwise (fun a b _ _ h3 h4 => absurd (Int.lt_trans h3 h4) (Int.lt_irrefl a)) h1.1 h2.1
/-- bytes as a string -/
def strB (l : List Int) : ByteArray := l.foldl (fun r n => r.push (UInt8.ofNat n.toNat)) ByteArray.empty
theorem str_run {S : Nat → Prop} {W : World} {v : Value} {l : List Int} (h : RowB S W v (zb l)) : (convert 30 9 v).run Try.prog W = .ok (.string (strB l)) W := by
  obtain ⟨ao, cap, rfl, h1, h2, h3, h4⟩ := h
  rw [zb_len] at h1 ⊢
  rw [run_convert_bytes_string W 30 9 5 ao l.length cap Try.underlying30 under5 Try.underlying9]
  cases ao with
  | none =>
    have := h3 rfl
    have hl : l = [] := List.eq_nil_of_length_eq_zero (by omega)
    subst hl
    simp [Conv.bytesToString, strB]
  | some a =>
    have hl := run_loadCells_list (P := Try.prog) W a (zb l) (fun j u hj => (h4 a rfl).2 j u hj)
    rw [zb_len] at hl
    exact run_bytesToString W a l.length cap l hl
theorem acts_openB {H : Type} {enc : TypeId × Value → H} {W : World} {a : Option Addr} {len cap : Nat} {d : DataW H} {p : List MemPlace} (h : DataW.Trod enc Try.prog W 0 (fun _ => true) true 22 (.slice a len cap) d p) (hs : ∀ n ∈ d.weights Try.prog 22, n ≤ reachBytes) :
    ∃ pl : Play, Acts W W.heap.size a len pl ∧ PlayOk len pl ∧ len ≤ 9223372036854775807 ∧ ∀ j, j < len → ∃ bs, pl.by_ j = zb bs := by
  have c30 : Try.prog.cellsOf 30 = 1 := by kernel_rfl
  obtain ⟨hl, h⟩ := rows_open Try.underlying22 Try.underlying32 (sz := 4) (by kernel_rfl) (fun k f hk => by
    match k, hk with
    | 0, hk => cases hk; exact ⟨rfl, cells3⟩
    | 1, hk => cases hk; exact ⟨rfl, cells3⟩
    | 2, hk => cases hk; exact ⟨rfl, cells3⟩
    | 3, hk => cases hk; exact ⟨rfl, c30⟩
    | k + 4, hk => simp at hk) rfl (by omega) h hs
  rcases h with h0 | ⟨b, o, n, V, rfl, hb, hel⟩
  · exact ⟨⟨fun _ => 0, fun _ => 0, fun _ => 0, fun _ => undef, fun _ => []⟩, .inl h0, ⟨fun j hj => by omega, fun j hj => by omega, fun j hj => by omega, fun j hj => by omega⟩, hl, fun j hj => by omega⟩
  have e0 : ∀ i, i < len → ∃ z : Int, V i 0 = .int .i64 z := fun i hi => by
    obtain ⟨_, y, hy, _⟩ := hel i hi 0 _ rfl
    obtain ⟨z, hz, _, hw⟩ := DataW.trod_int under3 hy
    exact ⟨z, by simpa using hz⟩
  have e1 : ∀ k, k = 1 ∨ k = 2 → ∀ i, i < len → ∃ z : Int, V i k = .int .i64 z ∧ (Lit.int .i64 z).wf = true := fun k hk i hi => by
    rcases hk with rfl | rfl
    · obtain ⟨_, y, hy, _⟩ := hel i hi 1 _ rfl
      obtain ⟨z, hz, _, hw⟩ := DataW.trod_int under3 hy
      exact ⟨z, by simpa using hz, hw⟩
    · obtain ⟨_, y, hy, _⟩ := hel i hi 2 _ rfl
      obtain ⟨z, hz, _, hw⟩ := DataW.trod_int under3 hy
      exact ⟨z, by simpa using hz, hw⟩
  have e3 : ∀ i, i < len → ∃ q : List UInt8, RowB (From W.heap.size) W (V i 3) (bs q) ∧ q.length ≤ reachBytes := fun i hi => by
    obtain ⟨_, y, hy, hq⟩ := hel i hi 3 _ rfl
    exact bytes_open Try.underlying30 under5 (by kernel_rfl) (by kernel_rfl) hy hq
  obtain ⟨z0, h0⟩ := Go.Deep.choose_lt e0
  obtain ⟨z1, h1⟩ := Go.Deep.choose_lt (e1 1 (.inl rfl))
  obtain ⟨z2, h2⟩ := Go.Deep.choose_lt (e1 2 (.inr rfl))
  obtain ⟨q, h3⟩ := Go.Deep.choose_lt e3
  refine ⟨⟨z0, z1, z2, fun i => V i 3, fun i => bs (q i)⟩, .inr ⟨b, o, rfl, hb, fun j hj => ⟨?_, ?_, ?_, (hel j hj 3 _ rfl).1, (h3 j hj).1⟩⟩, ⟨fun j hj => (h1 j hj).2, fun j hj => (h2 j hj).2, fun j hj => ?_, fun j hj => bs_one _⟩, hl, fun j hj => ⟨(q j).map (fun b => (b.toNat : Int)), by simp [bs, zb]⟩⟩
  · have := (hel j hj 0 _ rfl).1
    rw [Nat.add_zero, h0 j hj] at this
    exact this
  · rw [(hel j hj 1 _ rfl).1, (h1 j hj).1]
  · rw [(hel j hj 2 _ rfl).1, (h2 j hj).1]
  · have := (h3 j hj).2
    unfold reachBytes at this
    simp [bs]
    omega
end Go.Proofs.Ytkodkimfoihbhaa
