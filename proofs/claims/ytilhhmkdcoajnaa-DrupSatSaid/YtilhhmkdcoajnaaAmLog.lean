/- Reasoning on the runs of the abstract machine: more fuel does no harm; rules for code; conditions: none. -/
import Derived.Test.YtilhhmkdcoajnaaAmRun
set_option linter.unusedVariables false
set_option linter.unusedSimpArgs false
namespace Go.Proofs.Ytilhhmkdcoajnaa.Am
open Go
noncomputable section
structure Fns.le(F G:Fns):Prop where
  code:∀ {rnd:Option Nat} {c:AX} {var:List AV} {marks:List Nat} {s:ASt} {r:A6},F.code rnd c var marks s=some r→G.code rnd c var marks s=some r
  call:∀ {f:FuncId} {as:List AV} {s:ASt} {p:AV×ASt},F.call f as s=some p→G.call f as s=some p
  round:∀ {l:Nat} {as:List AV} {s:ASt} {p:AV×ASt},F.round l as s=some p→G.round l as s=some p
section
variable{F G:Fns}
theorem Kv(h:F.le G){f:AV}{as:List AV}{s:ASt}{p:AV×ASt}(hc:GY F f as s=some p):GY G f as s=some p:=by
  unfold GY at hc ⊢
  split at hc
  · exact h.call hc
  · exact h.round hc
  · cases hc
theorem Po(h:F.le G){sh:Sh}{xs:List CX}{loc var:List AV}{s:ASt}{p:AV×ASt}(hc:shA F sh xs loc var s=some p):shA G sh xs loc var s=some p:=by
  cases sh<;>first | exact hc | exact h.call hc | skip
  cases xs with
  | nil=>cases hc
  | cons x xs=>exact Kv h hc
theorem Gg(it:AA)(l:List AA)(loc var:List AV)(s:ASt):ET F (it::l) loc var s=LR F it (ET F l) loc var s:=rfl
theorem IW{k k':Vh}(hk:∀loc var s p,k loc var s=some p→k' loc var s=some p){ag:List CRd}{d:Jv}{loc var:List AV}{v:AV}{s:ASt}{p:List AV×ASt}(h:C5 ag d k loc var v s=some p):C5 ag d k' loc var v s=some p:=by
  cases d with
  | push =>
    simp only[C5]at h ⊢
    cases hb:EP s (v::loc) var ag with
    | true=>rw[hb]at h;exact hk _ _ _ _ h
    | false=>rw[hb]at h;cases h
  | set j =>
    simp only[C5]at h ⊢
    cases hb:EP s loc (upd v var j) ag with
    | true=>rw[hb]at h;exact hk _ _ _ _ h
    | false=>rw[hb]at h;cases h
theorem Gh(h:F.le G):∀ (l:List AA)(loc var:List AV)(s:ASt)(p:List AV×ASt),ET F l loc var s=some p→ET G l loc var s=some p:=by
  intro l
  induction l with
  | nil=>intro loc var s p hp;exact hp
  | cons it l ih =>
    intro loc var s p hp
    rw[Gg]at hp ⊢
    unfold LR at hp ⊢
    cases hw:Ba loc var it.guard with
    | true =>
      rw[hw]at hp
      simp only at hp ⊢
      unfold KF at hp ⊢
      cases hs:shA F it.sh it.xs loc var s with
      | none=>rw[hs]at hp;cases hp
      | some q=>rw[hs]at hp;rw[Po h hs];exact IW ih hp
    | false =>
      rw[hw]at hp
      exact IW ih hp
theorem Ku(h:F.le G){rnd:Option Nat}{b:AX}{r res:A6}(hc:HQ F rnd b r=some res):HQ G rnd b r=some res:=by
  unfold HQ at hc ⊢
  split at hc
  · exact h.code hc
  · exact hc
theorem ID(h:F.le G){var:List AV}{f:AV}{params:Array Tmp}{assign body:Code}{fn:FuncId}{dfr:Nat}{marks:List Nat}{s:ASt}{res:A6}
    (hc:FI F var f params assign body fn dfr marks s=some res):FI G var f params assign body fn dfr marks s=some res:=by
  unfold FI G0 at hc ⊢
  simp only[oE]at hc ⊢
  obtain⟨q,h1,rest⟩:=hc
  have h':Fns.le { F with round:=fun _ _ _=>none } { G with round:=fun _ _ _=>none }:=⟨h.code,h.call,fun h=>by cases h⟩
  exact⟨q,Kv h' h1,rest⟩
theorem S3(h:F.le G){rnd:Option Nat}{c:AX}{var:List AV}{marks:List Nat}{s:ASt}{res:A6}(hc:DC F rnd c var marks s=some res):DC G rnd c var marks s=some res:=by
  cases c with
  | skip=>exact hc
  | ret=>exact hc
  | exit id=>exact hc
  | never=>exact hc
  | ops l =>
    simp only[DC,bu]at hc ⊢
    cases hi:ET F l [] var s with
    | none=>rw[hi]at hc;cases hc
    | some p=>rw[hi]at hc;rw[Gh h _ _ _ _ _ hi];exact hc
  | seq a b =>
    simp only[DC]at hc ⊢
    unfold IE at hc ⊢
    cases ha:F.code rnd a var marks s with
    | none=>rw[ha]at hc;cases hc
    | some r=>rw[ha]at hc;rw[h.code ha];exact Ku h hc
  | cond x a b =>
    simp only[DC]at hc ⊢
    unfold Ov at hc ⊢
    split at hc
    · split at hc
      · exact h.code hc
      · exact h.code hc
    · cases hc
  | block id c =>
    simp only[DC]at hc ⊢
    unfold Ks at hc ⊢
    cases ha:F.code rnd c var marks s with
    | none=>rw[ha]at hc;cases hc
    | some r=>rw[ha]at hc;rw[h.code ha];exact hc
  | loop c =>
    simp only[DC]at hc ⊢
    unfold IE at hc ⊢
    cases ha:F.code rnd c var marks s with
    | none=>rw[ha]at hc;cases hc
    | some r=>rw[ha]at hc;rw[h.code ha];exact Ku h hc
  | rangeFunc fn f params assign body =>
    simp only[DC]at hc ⊢
    unfold Kt at hc ⊢
    cases rnd with
    | none=>exact ID h hc
    | some l =>
      simp only[oE]at hc ⊢
      obtain⟨r,h1,h2⟩:=hc
      exact⟨r,h1,ID h h2⟩
theorem S4(h:F.le G){E:Env}{f:FuncId}{as:List AV}{s:ASt}{p:AV×ASt}(hc:HW E F f as s=some p):HW E G f as s=some p:=by
  unfold HW at hc ⊢
  cases hn:E.nat f as s with
  | some q=>rw[hn]at hc;exact hc
  | none =>
    rw[hn]at hc
    simp only at hc ⊢
    unfold GW at hc ⊢
    simp only[oE]at hc ⊢
    obtain⟨cf,h1,h2⟩:=hc
    refine⟨cf,h1,?_⟩
    cases hb:Nat.beq as.length cf.na with
    | false=>rw[hb]at h2;cases h2
    | true =>
      rw[hb]at h2
      simp only[cond_true]at h2 ⊢
      unfold J8 at h2 ⊢
      simp only[oE]at h2 ⊢
      obtain⟨r,h3,h4⟩:=h2
      exact⟨r,h.code h3,h4⟩
theorem S5(h:F.le G){E:Env}{l:Nat}{as:List AV}{s:ASt}{p:AV×ASt}(hc:Jq E F l as s=some p):Jq E G l as s=some p:=by
  unfold Jq at hc ⊢
  simp only[oE]at hc ⊢
  obtain⟨r,h1,var,h2,ca,h3,cb,h4,hc⟩:=hc
  refine⟨r,h1,var,h2,ca,h3,cb,h4,?_⟩
  unfold HD at hc ⊢
  simp only[oE]at hc ⊢
  obtain⟨q,h5,hc⟩:=hc
  refine⟨q,h.code h5,?_⟩
  cases hn:IT q.exit with
  | false=>rw[hn]at hc;cases hc
  | true =>
    rw[hn]at hc
    simp only[cond_true,oE]at hc ⊢
    obtain⟨r2,h6,hc⟩:=hc
    refine⟨r2,h6,?_⟩
    cases hr:KD r2.state with
    | false=>rw[hr]at hc;cases hc
    | true =>
      rw[hr]at hc
      simp only[cond_true]at hc ⊢
      unfold Ii at hc ⊢
      simp only[oE]at hc ⊢
      obtain⟨q2,h7,rest⟩:=hc
      exact⟨q2,h.code h7,rest⟩
end
theorem OD(E:Env):∀n,(D9 E n).le (D9 E (n+1)):=by
  intro n
  induction n with
  | zero=>exact⟨fun h=>(by cases h),fun h=>(by cases h),fun h=>(by cases h)⟩
  | succ n ih=>exact⟨fun h=>S3 ih h,fun h=>S4 ih h,fun h=>S5 ih h⟩
theorem Fns.le.refl(F:Fns):F.le F:=⟨id,id,id⟩
theorem Fns.le.trans{F G H:Fns}(h:F.le G)(k:G.le H):F.le H:=⟨fun x=>k.code (h.code x),fun x=>k.call (h.call x),fun x=>k.round (h.round x)⟩
theorem F8(E:Env){n m:Nat}(h:n≤m):(D9 E n).le (D9 E m):=by
  induction h with
  | refl=>exact Fns.le.refl _
  | step _ ih=>exact ih.trans (OD E _)
section
variable(E:Env)
def WC(rnd:Option Nat)(c:AX)(Q:A6→Prop)(var:List AV)(marks:List Nat)(s:ASt):Prop:=∃n r,(D9 E n).code rnd c var marks s=some r∧Q r
def WI(l:List AA)(K:List AV→ASt→Prop)(loc var:List AV)(s:ASt):Prop:=∃n p,ET (D9 E n) l loc var s=some p∧K p.1 p.2
def WF(f:FuncId)(as:List AV)(K:AV→ASt→Prop)(s:ASt):Prop:=∃n p,(D9 E n).call f as s=some p∧K p.1 p.2
def WR(l:Nat)(as:List AV)(K:AV→ASt→Prop)(s:ASt):Prop:=∃n p,(D9 E n).round l as s=some p∧K p.1 p.2
end
section
variable{E:Env}{rnd:Option Nat}{Q Q':A6→Prop}{var loc:List AV}{marks:List Nat}{s:ASt}{K K':AV→ASt→Prop}{KI:List AV→ASt→Prop}
theorem WC.mono{c:AX}(h:WC E rnd c Q var marks s)(hq:∀r,Q r→Q' r):WC E rnd c Q' var marks s:=let ⟨n,r,h1,h2⟩:=h;⟨n,r,h1,hq r h2⟩
theorem WF.mono{f:FuncId}{as:List AV}(h:WF E f as K s)(hq:∀v s',K v s'→K' v s'):WF E f as K' s:=let ⟨n,r,h1,h2⟩:=h;⟨n,r,h1,hq _ _ h2⟩
theorem WC.skip(h:Q ⟨.normal,var,marks,s⟩):WC E rnd .skip Q var marks s:=⟨1,_,rfl,h⟩
theorem WC.ret(h:Q ⟨.ret,var,marks,s⟩):WC E rnd .ret Q var marks s:=⟨1,_,rfl,h⟩
theorem WC.exit{id:Nat}(h:Q ⟨.exit id,var,marks,s⟩):WC E rnd (.exit id) Q var marks s:=⟨1,_,rfl,h⟩
def UH(E:Env)(rnd:Option Nat)(b:AX)(Q:A6→Prop)(r:A6):Prop:=match r.exit with
  | .normal=>WC E rnd b Q r.var r.marks r.st
  | _=>Q r
theorem Pm{a b:AX}{n:Nat}{r:A6}(h1:(D9 E n).code rnd a var marks s=some r)(h2:UH E rnd b Q r):∃m res,IE (D9 E m) rnd b ((D9 E m).code rnd a var marks s)=some res∧Q res:=by
  unfold UH at h2
  cases he:r.exit with
  | normal =>
    rw[he]at h2
    obtain⟨m,res,h3,h4⟩:=h2
    refine⟨max n m,res,?_,h4⟩
    rw[(F8 E (Nat.le_max_left n m)).code h1]
    simp only[IE,HQ,he]
    exact(F8 E (Nat.le_max_right n m)).code h3
  | exit id=>rw[he]at h2;exact⟨n,r,by rw[h1];simp only[IE,HQ,he],h2⟩
  | ret=>rw[he]at h2;exact⟨n,r,by rw[h1];simp only[IE,HQ,he],h2⟩
theorem WC.seq{a b:AX}(h:WC E rnd a (UH E rnd b Q) var marks s):WC E rnd (.seq a b) Q var marks s:=by
  obtain⟨n,r,h1,h2⟩:=h
  obtain⟨m,res,h3,h4⟩:=Pm h1 h2
  exact⟨m+1,res,h3,h4⟩
theorem WC.loop{c:AX}(h:WC E rnd c (UH E rnd (.loop c) Q) var marks s):WC E rnd (.loop c) Q var marks s:=by
  obtain⟨n,r,h1,h2⟩:=h
  obtain⟨m,res,h3,h4⟩:=Pm h1 h2
  exact⟨m+1,res,h3,h4⟩
theorem WC.cond{x:CX}{a b:AX}{t:Bool}(hx:cev [] var x=.bool t)(h:WC E rnd (bif t then a else b) Q var marks s):WC E rnd (.cond x a b) Q var marks s:=by
  obtain⟨n,r,h1,h2⟩:=h
  refine⟨n+1,r,?_,h2⟩
  show DC (D9 E n) rnd (.cond x a b) var marks s=some r
  simp only[DC,Ov,hx]
  cases t<;>exact h1
def DM(id:Nat)(Q:A6→Prop)(r:A6):Prop:=match r.exit with
  | .exit id'=>bif Nat.beq id' id then Q ⟨.normal,r.var,r.marks,r.st⟩else Q r
  | _=>Q r
theorem WC.block{id:Nat}{c:AX}(h:WC E rnd c (DM id Q) var marks s):WC E rnd (.block id c) Q var marks s:=by
  obtain⟨n,r,h1,h2⟩:=h
  unfold DM at h2
  have:∃res,J7 id r=some res∧Q res:=by
    unfold J7
    split at h2
    · rename_i id' he
      simp only[he]
      cases hb:Nat.beq id' id with
      | true=>rw[hb]at h2;exact⟨_,rfl,h2⟩
      | false=>rw[hb]at h2;exact⟨_,rfl,h2⟩
    · rename_i hne
      cases he:r.exit with
      | normal=>exact⟨r,rfl,h2⟩
      | ret=>exact⟨r,rfl,h2⟩
      | exit id'=>exact absurd he (hne id')
  obtain⟨res,h3,h4⟩:=this
  refine⟨n+1,res,?_,h4⟩
  show DC (D9 E n) rnd (.block id c) var marks s=some res
  simp only[DC,Ks,h1,h3]
theorem WC.ops{l:List AA}(h:WI E l (fun v s'=>Q ⟨.normal,v,marks,s'⟩) [] var s):WC E rnd (.ops l) Q var marks s:=by
  obtain⟨n,p,h1,h2⟩:=h
  refine⟨n+1,⟨.normal,p.1,marks,p.2⟩,?_,h2⟩
  show DC (D9 E n) rnd (.ops l) var marks s=_
  simp only[DC,bu,h1]
theorem WI.nil(h:KI var s):WI E [] KI loc var s:=⟨0,_,rfl,h⟩
def Dst(E:Env)(ag:List CRd)(d:Jv)(l:List AA)(KI:List AV→ASt→Prop)(loc var:List AV)(v:AV)(s:ASt):Prop:=match d with
  | .push=>EP s (v::loc) var ag=true∧WI E l KI (v::loc) var s
  | .set j=>EP s loc (upd v var j) ag=true∧WI E l KI loc (upd v var j) s
theorem Tp{ag:List CRd}{d:Jv}{l:List AA}{v:AV}(h:Dst E ag d l KI loc var v s):∃n p,(∀m,n≤m→C5 ag d (ET (D9 E m) l) loc var v s=some p)∧KI p.1 p.2:=by
  cases d with
  | push =>
    obtain⟨h1,n,p,h2,h3⟩:=h
    exact⟨n,p,fun m hm=>by simp only[C5,h1,cond_true];exact Gh (F8 E hm) _ _ _ _ _ h2,h3⟩
  | set j =>
    obtain⟨h1,n,p,h2,h3⟩:=h
    exact⟨n,p,fun m hm=>by simp only[C5,h1,cond_true];exact Gh (F8 E hm) _ _ _ _ _ h2,h3⟩
theorem WI.item{it:AA}{l:List AA}{n:Nat}{p:AV×ASt}(hw:Ba loc var it.guard=true)(hs:shA (D9 E n) it.sh it.xs loc var s=some p)(h:Dst E it.again it.dst l KI loc var p.1 p.2):WI E (it::l) KI loc var s:=by
  obtain⟨m,q,h1,h2⟩:=Tp h
  refine⟨max n m,q,?_,h2⟩
  rw[Gg]
  unfold LR
  rw[hw]
  simp only[KF,Po (F8 E (Nat.le_max_left n m)) hs]
  exact h1 _ (Nat.le_max_right n m)
theorem WI.off{it:AA}{l:List AA}(hw:Ba loc var it.guard=false)(h:Dst E [] it.dst l KI loc var Au s):WI E (it::l) KI loc var s:=by
  obtain⟨m,q,h1,h2⟩:=Tp h
  refine⟨m,q,?_,h2⟩
  rw[Gg]
  unfold LR
  rw[hw]
  exact h1 _ (oD m)
def Jw(P:Program)(rs:List (CX×Option TypeId))(K:AV→ASt→Prop)(r:A6):Prop:=Tu r.exit=true∧∃s',unmark r.st r.marks=some s'∧∃l,Br P s' r.var rs=some l∧K (Bf l) s'
theorem WF.body{f:FuncId}{as:List AV}{cf:Ar}(hn:E.nat f as s=none)(hf:AQ E.P f=some cf)(ha:as.length=cf.na)(h:WC E none cf.body (Jw E.P cf.results K) (Ql as cf.nv) [] s):WF E f as K s:=by
  obtain⟨n,r,h1,h2,s',h3,l,h4,h5⟩:=h
  refine⟨n+1,(Bf l,s'),?_,h5⟩
  show HW E (D9 E n) f as s=_
  simp[HW,hn,GW,hf,ha,J8,h1,h2,h3,h4]
theorem WF.nat{f:FuncId}{as:List AV}{p:AV×ASt}(hn:E.nat f as s=some p)(h:K p.1 p.2):WF E f as K s:=⟨1,p,by show HW E (D9 E 0) f as s=_;simp[HW,hn],h⟩
end
end
end Go.Proofs.Ytilhhmkdcoajnaa.Am
