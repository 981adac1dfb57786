/- What was read stays so where only new objects come; conditions: none. -/
import Derived.Test.YtilhhmkdcoajnaaAmOp
set_option linter.unusedVariables false
set_option linter.unusedSimpArgs false
namespace Go.Proofs.Ytilhhmkdcoajnaa.Am
open Go
noncomputable section
def ASt.sub(s s':ASt):Prop:=∀i o,s.heap.get i=some o→s'.heap.get i=some o
section
variable{P:Program}{ρ ρ1 ρ2:Rho}{s s1 s2:ASt}{w w1 w2:World}
theorem ASt.sub_new(h:s.heap.get s.next=none)(o:AObj):s.sub (newObj s o):=fun i ob e=>by
  rw[get_newObj,if_neg]
  · exact e
  · intro q;subst q;rw[h]at e;cases e
theorem rowAt_mono(h:s.sub s2){i:Nat}{r:ARow}(hr:rowAt s i=some r):rowAt s2 i=some r:=by
  have:=h i _ (rowAt_get hr)
  simp[rowAt,this]
theorem loadN_mono(h:s.sub s2){i o n:Nat}{l:List AV}(hr:loadN s i o n=some l):loadN s2 i o n=some l:=by
  unfold loadN at hr ⊢
  simp only[Option.bind_eq_some_iff]at hr
  obtain⟨r,h1,h2⟩:=hr
  rw[rowAt_mono h h1]
  exact h2
theorem load1_mono(h:s.sub s2){i o:Nat}{l:AV}(hr:load1 s i o=some l):load1 s2 i o=some l:=by
  unfold load1 at hr ⊢
  simp only[Option.bind_eq_some_iff]at hr
  obtain⟨r,h1,h2⟩:=hr
  rw[rowAt_mono h h1]
  exact h2
theorem loadV_mono(h:s.sub s2){t:TypeId}{a v:AV}(hr:loadV P s t a=some v):loadV P s2 t a=some v:=by
  unfold loadV at hr ⊢
  split at hr<;>first | (cases hr;done) | skip
  simp only[Option.bind_eq_some_iff]at hr ⊢
  obtain⟨g,h1,h2⟩:=hr
  refine⟨g,h1,?_⟩
  cases g with
  | true =>
    simp only[Option.bind_eq_some_iff]at h2 ⊢
    obtain⟨n,h3,l,h4,h5⟩:=h2
    exact⟨n,h3,l,loadN_mono h h4,h5⟩
  | false=>exact load1_mono h h2
theorem lookupA_mono(h:s.sub s2){t:TypeId}{m k v:AV}{ok:Bool}(hr:lookupA P s t m k ok=some v):lookupA P s2 t m k ok=some v:=by
  unfold lookupA at hr ⊢
  split at hr<;>first | (cases hr;done) | skip
  obtain⟨hk,hg⟩:=guardB_some hr
  clear hr
  rw[hk]
  simp only[guardB,cond_true]
  simp only[Option.bind_eq_some_iff]at hg ⊢
  obtain⟨es,h1,rest⟩:=hg
  refine⟨es,?_,rest⟩
  cases m with
  | map r =>
    cases r with
    | none=>exact h1
    | some i =>
      simp only at h1 ⊢
      split at h1<;>first | (cases h1;done) | skip
      rename_i hget
      rw[h i _ hget]
      exact h1
  | _=>cases h1
theorem convA_mono(h:s.sub s2){src dst:TypeId}{x v:AV}(hr:convA P s src dst x=some v):convA P s2 src dst x=some v:=by
  unfold convA at hr ⊢
  split at hr<;>first | (cases hr;done) | skip
  · exact hr
  · exact hr
  · split at hr <;> first | (cases hr; done) | skip
    split at hr
    · exact hr
    · simp only[Option.bind_eq_some_iff]at hr ⊢
      obtain⟨l,h1,rest⟩:=hr
      exact⟨l,loadN_mono h h1,rest⟩
theorem sliceA_mono (h : s.sub s2) {t : TypeId} {x v : AV} {lo hi mx : Option AV} (hr : sliceA P s t x lo hi mx = some v) : sliceA P s2 t x lo hi mx = some v := by
  unfold sliceA at hr ⊢
  split at hr<;>first | (cases hr;done) | skip
  · exact hr
  · rename_i a len cap
    split at hr<;>first | (cases hr;done) | skip
    simp only[Option.bind_eq_some_iff]at hr ⊢
    obtain⟨n,h1,far,h2,rest⟩:=hr
    refine⟨n,h1,far,?_,rest⟩
    cases cap with
    | some c=>exact h2
    | none =>
      cases a with
      | none=>exact h2
      | some io =>
        obtain⟨i,o⟩:=io
        simp only[Option.bind_eq_some_iff]at h2 ⊢
        obtain⟨r,h3,h4⟩:=h2
        exact⟨r,rowAt_mono h h3,h4⟩
  · exact hr
theorem sliceOpnds_mono(h:s.sub s2){t:TypeId}{lo hi mx:Bool}{as:List AV}{v:AV}(hr:sliceOpnds P t lo hi mx s as=some v):sliceOpnds P t lo hi mx s2 as=some v:=by
  unfold sliceOpnds at hr ⊢
  split at hr<;>first | (cases hr;done) | skip
  all_goals
    split at hr<;>first | (cases hr;done) | exact sliceA_mono h hr
theorem lenA_mono(h:s.sub s2){t:TypeId}{x v:AV}(hr:lenA P s t x=some v):lenA P s2 t x=some v:=by
  unfold lenA at hr ⊢
  split at hr<;>first | (cases hr;done) | skip
  · exact hr
  · exact hr
  · exact hr
  · split at hr <;> first | (cases hr; done) | skip
    split at hr<;>first | (cases hr;done) | skip
    rename_i hget
    rw[h _ _ hget]
    exact hr
theorem capA_mono(h:s.sub s2){t:TypeId}{x v:AV}(hr:capA P s t x=some v):capA P s2 t x=some v:=by
  unfold capA at hr ⊢
  split at hr<;>first | (cases hr;done) | skip
  split at hr<;>first | (cases hr;done) | skip
  split at hr
  · exact hr
  · split at hr <;> first | (cases hr; done) | skip
    simp only[Option.bind_eq_some_iff]at hr ⊢
    obtain⟨n,h1,r,h2,h3⟩:=hr
    exact⟨n,h1,r,rowAt_mono h h2,h3⟩
theorem one_mono{α:Type}{f g:AV→Option α}(hm:∀a v,f a=some v→g a=some v){as:List AV}{v:α}(h:one f as=some v):one g as=some v:=by
  unfold one at h ⊢
  split at h<;>first | (cases h;done) | exact hm _ _ h
theorem on2_mono{α:Type}{f g:AV→AV→Option α}(hm:∀a b v,f a b=some v→g a b=some v){as:List AV}{v:α}(h:on2 f as=some v):on2 g as=some v:=by
  unfold on2 at h ⊢
  split at h<;>first | (cases h;done) | exact hm _ _ _ h
theorem read_mono(h:s.sub s2){o:Op}{sh:Sh}{xs:List Operand}{as:List AV}{v:AV}(hsh:shapeOf P o=some (sh,xs))(hr:readA sh as s=some v):readA sh as s2=some v:=by
  cases o<;>first | (simp[shapeOf]at hsh;done) | skip
  case load t a=>injection hsh with hsh;injection hsh with h1 h2;subst h1;exact one_mono (fun _ _=>loadV_mono h) hr
  case lookup t m k ok=>injection hsh with hsh;injection hsh with h1 h2;subst h1;exact on2_mono (fun _ _ _=>lookupA_mono h) hr
  case convert src dst x=>injection hsh with hsh;injection hsh with h1 h2;subst h1;exact one_mono (fun _ _=>convA_mono h) hr
  case slice t x lo hi mx=>injection hsh with hsh;injection hsh with h1 h2;subst h1;exact sliceOpnds_mono h hr
  case call c =>
    obtain⟨callee,args,argTypes⟩:=c
    simp only[shapeOf]at hsh
    split at hsh<;>first | (cases hsh;done) | (injection hsh with hsh;injection hsh with h1 h2;subst h1;cases hr;done) | skip
    split at hsh<;>first | (cases hsh;done) | (injection hsh with hsh;injection hsh with h1 h2;subst h1;cases hr;done) | skip
    · split at hsh<;>first | (cases hsh;done) | skip
      injection hsh with hsh;injection hsh with h1 h2;subst h1
      simp only[readA]at hr ⊢
      split at hr<;>first | (cases hr;done) | exact lenA_mono h hr
    · split at hsh<;>first | (cases hsh;done) | skip
      injection hsh with hsh;injection hsh with h1 h2;subst h1
      simp only[readA]at hr ⊢
      split at hr<;>first | (cases hr;done) | exact capA_mono h hr
    · split at hsh<;>first | (cases hsh;done) | skip
      injection hsh with hsh;injection hsh with h1 h2;subst h1;cases hr
  case makeMap t r =>
    cases r with
    | some _=>cases hsh
    | none=>injection hsh with hsh;injection hsh with h1 h2;subst h1;cases hr
  case makeFunc fn first captured =>
    cases fn with
    | func f=>injection hsh with hsh;injection hsh with h1 h2;subst h1;cases hr
    | _=>cases hsh
  all_goals (injection hsh with hsh;injection hsh with h1 h2;subst h1;cases hr)
end
end
end Go.Proofs.Ytilhhmkdcoajnaa.Am
