/- What the document's bad looks at: plain. -/
import Derived.Test.YtnkelaohcbdjnaaGreatRg
import Derived.Test.YtnkelaohcbdjnaaGreatRm
import Derived.Test.YtnkelaohcbdjnaaGreatDe
set_option linter.unusedVariables false
set_option linter.unusedSimpArgs false
namespace Go.Proofs.YtnkelaohcbdjnaaGreat
open Go.RowKit Go.Maps Ev
def strip (x : Ev.Ev) : Ev.Ev:={ x with ao:=none,cp:=0 }
theorem tells_gs {S : Nat → Prop} {W : World} {l : List Rv} {L : List Ev.Ev} (h : Tells S W l L) (hl : L.length = l.length) : Gs l = L.map strip:=by
 apply List.ext_getElem?
 intro i
 by_cases hi : i < l.length
 ·obtain ⟨e,he⟩ : ∃ e,l[i]? = some e:=⟨_,List.getElem?_eq_getElem hi⟩
  obtain ⟨x,hx⟩ : ∃ x,L[i]? = some x:=⟨_,List.getElem?_eq_getElem (by omega)⟩
  rw [Gs_at he,List.getElem?_map,hx]
  obtain ⟨a,b,c,d,f,g,q,_⟩:=h i e x he hx
  show some (ge e) = some (strip x)
  unfold ge strip
  rw [a,b,c,d,f,g,q]
 ·rw [List.getElem?_eq_none (by rw [Gs_len];omega),List.getElem?_eq_none (by rw [List.length_map];omega)]
theorem rKind_strip (L : List Ev.Ev) (a : Int) : rKind (L.map strip) a = rKind L a:=by
 unfold rKind
 rw [List.length_map,List.getElem?_map]
 split
 ·rfl
 ·cases L[(a - 1).toNat]? with
  | none=>rfl
  | some e=>rfl
theorem rWorks_strip (L : List Ev.Ev) (a : Int) : rWorks (L.map strip) a = rWorks L a:=by
 unfold rWorks
 rw [List.findIdx?_map]
 rfl
theorem rNamed_strip (L : List Ev.Ev) (a : Int) (ks : List Int) : rNamed (L.map strip) a ks = rNamed L a ks:=by
 unfold rNamed
 rw [List.any_map]
 rfl
theorem rOpen_strip (L : List Ev.Ev) (a : Int) : rOpen (L.map strip) a = rOpen L a:=by
 unfold rOpen
 rw [rKind_strip,rWorks_strip,rNamed_strip,rNamed_strip,rNamed_strip]
theorem rIds_strip (L : List Ev.Ev) (k : Int) (n : Nat) : rIds (L.map strip) k n = rIds L k n:=by
 unfold rIds
 have e1 : inK (L.map strip) k = inK L k:=by
  funext i
  unfold inK
  rw [rOpen_strip,rKind_strip]
 have e2 : ∀ a,idAt (L.map strip) a = idAt L a:=fun a=>by
  unfold idAt evAt
  by_cases h : a < 1
  ·rw [if_pos h,if_pos h]
  ·rw [if_neg h,if_neg h,List.getElem?_map]
   cases L[(a - 1).toNat]? with
   | none=>rfl
   | some e=>rfl
 rw [e1]
 congr 1
 funext i
 rw [e2]
/-- what is open,as the document tells it -/
def openR (l : List Rv) : Int × Int → Bool:=fun y=>hasB (rIds (Gs l) y.1 l.length) y.2
def rbadS (s : FSt) (l : List Dv) : Bool:=decide (32 < l.length) || badL s.id s.asked (openR s.l) l
theorem hasB_perm {xs ys : List Int} (h : xs.Perm ys) (v : Int) : hasB xs v = hasB ys v:=h.any_eq
theorem hasB_snoc (xs : List Int) (x v : Int) : hasB (xs ++ [x]) v = (hasB xs v || (x == v)):=by unfold hasB;simp
theorem hasB_without (xs : List Int) (x v : Int) : hasB (withoutL xs x) v = (hasB xs v && (x != v)):=by
 rw [Bool.eq_iff_iff]
 unfold hasB withoutL
 simp only [List.any_eq_true,List.mem_filter,beq_iff_eq,bne_iff_ne,Bool.and_eq_true]
 constructor
 ·rintro ⟨a,⟨h1,h2⟩,rfl⟩
  exact ⟨⟨a,h1,rfl⟩,fun e=>h2 e.symm⟩
 ·rintro ⟨⟨a,h1,rfl⟩,h2⟩
  exact ⟨a,⟨h1,fun e=>h2 e.symm⟩,rfl⟩
end Go.Proofs.YtnkelaohcbdjnaaGreat
