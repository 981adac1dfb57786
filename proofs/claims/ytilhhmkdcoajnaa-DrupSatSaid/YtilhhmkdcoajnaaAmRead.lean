/- What was read stays so where only new objects come; conditions: none. -/
import Derived.Test.YtilhhmkdcoajnaaAmOp
set_option linter.unusedVariables false
set_option linter.unusedSimpArgs false
namespace Go.Proofs.Ytilhhmkdcoajnaa.Am
open Go
noncomputable section
def ASt.sub(s s':ASt):Prop:=∀i o,s.heap.get i=some o→s'.heap.get i=some o
section
variable{P:Program}{ρ ρ1 ρ2:Rho}{s s1 s2:ASt}{w w1 w2:World}
theorem ASt.sub_new(h:s.heap.get s.next=none)(o:Cv):s.sub (AH s o):=fun i ob e=>by
  rw[CH,if_neg]
  · exact e
  · intro q;subst q;rw[h]at e;cases e
theorem F7(h:s.sub s2){i:Nat}{r:EF}(hr:BA s i=some r):BA s2 i=some r:=by
  have:=h i _ (Cn hr)
  simp[BA,this]
theorem LX(h:s.sub s2){i o n:Nat}{l:List AV}(hr:loadN s i o n=some l):loadN s2 i o n=some l:=by
  unfold loadN at hr ⊢
  simp only[oE]at hr
  obtain⟨r,h1,h2⟩:=hr
  rw[F7 h h1]
  exact h2
theorem SW(h:s.sub s2){i o:Nat}{l:AV}(hr:load1 s i o=some l):load1 s2 i o=some l:=by
  unfold load1 at hr ⊢
  simp only[oE]at hr
  obtain⟨r,h1,h2⟩:=hr
  rw[F7 h h1]
  exact h2
theorem SX(h:s.sub s2){t:TypeId}{a v:AV}(hr:AD P s t a=some v):AD P s2 t a=some v:=by
  unfold AD at hr ⊢
  split at hr<;>first | (cases hr;done) | skip
  simp only[oE]at hr ⊢
  obtain⟨g,h1,h2⟩:=hr
  refine⟨g,h1,?_⟩
  cases g with
  | true =>
    simp only[oE]at h2 ⊢
    obtain⟨n,h3,l,h4,h5⟩:=h2
    exact⟨n,h3,l,LX h h4,h5⟩
  | false=>exact SW h h2
theorem N0(h:s.sub s2){t:TypeId}{m k v:AV}{ok:Bool}(hr:C6 P s t m k ok=some v):C6 P s2 t m k ok=some v:=by
  unfold C6 at hr ⊢
  split at hr<;>first | (cases hr;done) | skip
  obtain⟨hk,hg⟩:=AJ hr
  clear hr
  rw[hk]
  simp only[AF,cond_true]
  simp only[oE]at hg ⊢
  obtain⟨es,h1,rest⟩:=hg
  refine⟨es,?_,rest⟩
  cases m with
  | map r =>
    cases r with
    | none=>exact h1
    | some i =>
      simp only at h1 ⊢
      split at h1<;>first | (cases h1;done) | skip
      rename_i hget
      rw[h i _ hget]
      exact h1
  | _=>cases h1
theorem SB(h:s.sub s2){src dst:TypeId}{x v:AV}(hr:Cj P s src dst x=some v):Cj P s2 src dst x=some v:=by
  unfold Cj at hr ⊢
  split at hr<;>first | (cases hr;done) | skip
  · exact hr
  · exact hr
  · split at hr <;> first | (cases hr; done) | skip
    split at hr
    · exact hr
    · simp only[oE]at hr ⊢
      obtain⟨l,h1,rest⟩:=hr
      exact⟨l,LX h h1,rest⟩
theorem Pq          (h : s.sub s2) {t : TypeId} {x v : AV} {lo hi mx : Option AV} (hr : Ap     P s t x lo hi mx = some v) : Ap     P s2 t x lo hi mx = some v := by
  unfold Ap at hr ⊢
  split at hr<;>first | (cases hr;done) | skip
  · exact hr
  · rename_i a len cap
    split at hr<;>first | (cases hr;done) | skip
    simp only[oE]at hr ⊢
    obtain⟨n,h1,far,h2,rest⟩:=hr
    refine⟨n,h1,far,?_,rest⟩
    cases cap with
    | some c=>exact h2
    | none =>
      cases a with
      | none=>exact h2
      | some io =>
        obtain⟨i,o⟩:=io
        simp only[oE]at h2 ⊢
        obtain⟨r,h3,h4⟩:=h2
        exact⟨r,F7 h h3,h4⟩
  · exact hr
theorem J3(h:s.sub s2){t:TypeId}{lo hi mx:Bool}{as:List AV}{v:AV}(hr:AW P t lo hi mx s as=some v):AW P t lo hi mx s2 as=some v:=by
  unfold AW at hr ⊢
  split at hr<;>first | (cases hr;done) | skip
  all_goals
    split at hr<;>first | (cases hr;done) | exact Pq h hr
theorem Up(h:s.sub s2){t:TypeId}{x v:AV}(hr:Ao P s t x=some v):Ao P s2 t x=some v:=by
  unfold Ao at hr ⊢
  split at hr<;>first | (cases hr;done) | skip
  · exact hr
  · exact hr
  · exact hr
  · split at hr <;> first | (cases hr; done) | skip
    split at hr<;>first | (cases hr;done) | skip
    rename_i hget
    rw[h _ _ hget]
    exact hr
theorem UN(h:s.sub s2){t:TypeId}{x v:AV}(hr:MD P s t x=some v):MD P s2 t x=some v:=by
  unfold MD at hr ⊢
  split at hr<;>first | (cases hr;done) | skip
  split at hr<;>first | (cases hr;done) | skip
  split at hr
  · exact hr
  · split at hr <;> first | (cases hr; done) | skip
    simp only[oE]at hr ⊢
    obtain⟨n,h1,r,h2,h3⟩:=hr
    exact⟨n,h1,r,F7 h h2,h3⟩
theorem PZ{α:Type}{f g:AV→Option α}(hm:∀a v,f a=some v→g a=some v){as:List AV}{v:α}(h:one f as=some v):one g as=some v:=by
  unfold one at h ⊢
  split at h<;>first | (cases h;done) | exact hm _ _ h
theorem Z0{α:Type}{f g:AV→AV→Option α}(hm:∀a b v,f a b=some v→g a b=some v){as:List AV}{v:α}(h:on2 f as=some v):on2 g as=some v:=by
  unfold on2 at h ⊢
  split at h<;>first | (cases h;done) | exact hm _ _ _ h
theorem VH(h:s.sub s2){o:Op}{sh:Sh}{xs:List Operand}{as:List AV}{v:AV}(hsh:BZ P o=some (sh,xs))(hr:Eb sh as s=some v):Eb sh as s2=some v:=by
  cases o<;>first | (simp[BZ]at hsh;done) | skip
  case load t a=>injection hsh with hsh;injection hsh with h1 h2;subst h1;exact PZ (fun _ _=>SX h) hr
  case lookup t m k ok=>injection hsh with hsh;injection hsh with h1 h2;subst h1;exact Z0 (fun _ _ _=>N0 h) hr
  case convert src dst x=>injection hsh with hsh;injection hsh with h1 h2;subst h1;exact PZ (fun _ _=>SB h) hr
  case slice t x lo hi mx=>injection hsh with hsh;injection hsh with h1 h2;subst h1;exact J3 h hr
  case call c =>
    obtain⟨callee,args,argTypes⟩:=c
    simp only[BZ]at hsh
    split at hsh<;>first | (cases hsh;done) | (injection hsh with hsh;injection hsh with h1 h2;subst h1;cases hr;done) | skip
    split at hsh<;>first | (cases hsh;done) | (injection hsh with hsh;injection hsh with h1 h2;subst h1;cases hr;done) | skip
    · split at hsh<;>first | (cases hsh;done) | skip
      injection hsh with hsh;injection hsh with h1 h2;subst h1
      simp only[Eb]at hr ⊢
      split at hr<;>first | (cases hr;done) | exact Up h hr
    · split at hsh<;>first | (cases hsh;done) | skip
      injection hsh with hsh;injection hsh with h1 h2;subst h1
      simp only[Eb]at hr ⊢
      split at hr<;>first | (cases hr;done) | exact UN h hr
    · split at hsh<;>first | (cases hsh;done) | skip
      injection hsh with hsh;injection hsh with h1 h2;subst h1;cases hr
  case makeMap t r =>
    cases r with
    | some _=>cases hsh
    | none=>injection hsh with hsh;injection hsh with h1 h2;subst h1;cases hr
  case makeFunc fn first captured =>
    cases fn with
    | func f=>injection hsh with hsh;injection hsh with h1 h2;subst h1;cases hr
    | _=>cases hsh
  all_goals (injection hsh with hsh;injection hsh with h1 h2;subst h1;cases hr)
end
end
end Go.Proofs.Ytilhhmkdcoajnaa.Am
