/- Reasoning on the runs of the abstract machine: more fuel does no harm; rules for code; conditions: none. -/
import Derived.Test.YtilhhmkdcoajnaaAmRun
set_option linter.unusedVariables false
set_option linter.unusedSimpArgs false
namespace Go.Proofs.Ytilhhmkdcoajnaa.Am
open Go
noncomputable section
structure Fns.le(F G:Fns):Prop where
  code:∀ {rnd:Option Nat} {c:CCode} {var:List AV} {marks:List Nat} {s:ASt} {r:ARes},F.code rnd c var marks s=some r→G.code rnd c var marks s=some r
  call:∀ {f:FuncId} {as:List AV} {s:ASt} {p:AV×ASt},F.call f as s=some p→G.call f as s=some p
  round:∀ {l:Nat} {as:List AV} {s:ASt} {p:AV×ASt},F.round l as s=some p→G.round l as s=some p
section
variable{F G:Fns}
theorem callV_mono(h:F.le G){f:AV}{as:List AV}{s:ASt}{p:AV×ASt}(hc:callV F f as s=some p):callV G f as s=some p:=by
  unfold callV at hc ⊢
  split at hc
  · exact h.call hc
  · exact h.round hc
  · cases hc
theorem shA_mono(h:F.le G){sh:Sh}{xs:List CX}{loc var:List AV}{s:ASt}{p:AV×ASt}(hc:shA F sh xs loc var s=some p):shA G sh xs loc var s=some p:=by
  cases sh<;>first | exact hc | exact h.call hc | skip
  cases xs with
  | nil=>cases hc
  | cons x xs=>exact callV_mono h hc
theorem itemsA_cons(it:CItem)(l:List CItem)(loc var:List AV)(s:ASt):itemsA F (it::l) loc var s=item1 F it (itemsA F l) loc var s:=rfl
theorem itemDst_mono{k k':Cont}(hk:∀loc var s p,k loc var s=some p→k' loc var s=some p){ag:List CRd}{d:CDst}{loc var:List AV}{v:AV}{s:ASt}{p:List AV×ASt}(h:itemDst ag d k loc var v s=some p):itemDst ag d k' loc var v s=some p:=by
  cases d with
  | push =>
    simp only[itemDst]at h ⊢
    cases hb:againA s (v::loc) var ag with
    | true=>rw[hb]at h;exact hk _ _ _ _ h
    | false=>rw[hb]at h;cases h
  | set j =>
    simp only[itemDst]at h ⊢
    cases hb:againA s loc (upd v var j) ag with
    | true=>rw[hb]at h;exact hk _ _ _ _ h
    | false=>rw[hb]at h;cases h
theorem itemsA_mono(h:F.le G):∀ (l:List CItem)(loc var:List AV)(s:ASt)(p:List AV×ASt),itemsA F l loc var s=some p→itemsA G l loc var s=some p:=by
  intro l
  induction l with
  | nil=>intro loc var s p hp;exact hp
  | cons it l ih =>
    intro loc var s p hp
    rw[itemsA_cons]at hp ⊢
    unfold item1 at hp ⊢
    cases hw:wantedA loc var it.guard with
    | true =>
      rw[hw]at hp
      simp only at hp ⊢
      unfold itemRes at hp ⊢
      cases hs:shA F it.sh it.xs loc var s with
      | none=>rw[hs]at hp;cases hp
      | some q=>rw[hs]at hp;rw[shA_mono h hs];exact itemDst_mono ih hp
    | false =>
      rw[hw]at hp
      exact itemDst_mono ih hp
theorem cSeq2_mono(h:F.le G){rnd:Option Nat}{b:CCode}{r res:ARes}(hc:cSeq2 F rnd b r=some res):cSeq2 G rnd b r=some res:=by
  unfold cSeq2 at hc ⊢
  split at hc
  · exact h.code hc
  · exact hc
theorem cRange2_mono(h:F.le G){var:List AV}{f:AV}{params:Array Tmp}{assign body:Code}{fn:FuncId}{dfr:Nat}{marks:List Nat}{s:ASt}{res:ARes}
    (hc:cRange2 F var f params assign body fn dfr marks s=some res):cRange2 G var f params assign body fn dfr marks s=some res:=by
  unfold cRange2 cRangeEnd at hc ⊢
  simp only[Option.bind_eq_some_iff]at hc ⊢
  obtain⟨q,h1,rest⟩:=hc
  have h':Fns.le { F with round:=fun _ _ _=>none } { G with round:=fun _ _ _=>none }:=⟨h.code,h.call,fun h=>by cases h⟩
  exact⟨q,callV_mono h' h1,rest⟩
theorem stepC_mono(h:F.le G){rnd:Option Nat}{c:CCode}{var:List AV}{marks:List Nat}{s:ASt}{res:ARes}(hc:stepC F rnd c var marks s=some res):stepC G rnd c var marks s=some res:=by
  cases c with
  | skip=>exact hc
  | ret=>exact hc
  | exit id=>exact hc
  | never=>exact hc
  | ops l =>
    simp only[stepC,cOps]at hc ⊢
    cases hi:itemsA F l [] var s with
    | none=>rw[hi]at hc;cases hc
    | some p=>rw[hi]at hc;rw[itemsA_mono h _ _ _ _ _ hi];exact hc
  | seq a b =>
    simp only[stepC]at hc ⊢
    unfold cSeq at hc ⊢
    cases ha:F.code rnd a var marks s with
    | none=>rw[ha]at hc;cases hc
    | some r=>rw[ha]at hc;rw[h.code ha];exact cSeq2_mono h hc
  | cond x a b =>
    simp only[stepC]at hc ⊢
    unfold cCond at hc ⊢
    split at hc
    · split at hc
      · exact h.code hc
      · exact h.code hc
    · cases hc
  | block id c =>
    simp only[stepC]at hc ⊢
    unfold cBlock at hc ⊢
    cases ha:F.code rnd c var marks s with
    | none=>rw[ha]at hc;cases hc
    | some r=>rw[ha]at hc;rw[h.code ha];exact hc
  | loop c =>
    simp only[stepC]at hc ⊢
    unfold cSeq at hc ⊢
    cases ha:F.code rnd c var marks s with
    | none=>rw[ha]at hc;cases hc
    | some r=>rw[ha]at hc;rw[h.code ha];exact cSeq2_mono h hc
  | rangeFunc fn f params assign body =>
    simp only[stepC]at hc ⊢
    unfold cRange at hc ⊢
    cases rnd with
    | none=>exact cRange2_mono h hc
    | some l =>
      simp only[Option.bind_eq_some_iff]at hc ⊢
      obtain⟨r,h1,h2⟩:=hc
      exact⟨r,h1,cRange2_mono h h2⟩
theorem stepF_mono(h:F.le G){E:Env}{f:FuncId}{as:List AV}{s:ASt}{p:AV×ASt}(hc:stepF E F f as s=some p):stepF E G f as s=some p:=by
  unfold stepF at hc ⊢
  cases hn:E.nat f as s with
  | some q=>rw[hn]at hc;exact hc
  | none =>
    rw[hn]at hc
    simp only at hc ⊢
    unfold callBody at hc ⊢
    simp only[Option.bind_eq_some_iff]at hc ⊢
    obtain⟨cf,h1,h2⟩:=hc
    refine⟨cf,h1,?_⟩
    cases hb:Nat.beq as.length cf.na with
    | false=>rw[hb]at h2;cases h2
    | true =>
      rw[hb]at h2
      simp only[cond_true]at h2 ⊢
      unfold callEnd at h2 ⊢
      simp only[Option.bind_eq_some_iff]at h2 ⊢
      obtain⟨r,h3,h4⟩:=h2
      exact⟨r,h.code h3,h4⟩
theorem stepR_mono(h:F.le G){E:Env}{l:Nat}{as:List AV}{s:ASt}{p:AV×ASt}(hc:stepR E F l as s=some p):stepR E G l as s=some p:=by
  unfold stepR at hc ⊢
  simp only[Option.bind_eq_some_iff]at hc ⊢
  obtain⟨r,h1,var,h2,ca,h3,cb,h4,hc⟩:=hc
  refine⟨r,h1,var,h2,ca,h3,cb,h4,?_⟩
  unfold roundBody at hc ⊢
  simp only[Option.bind_eq_some_iff]at hc ⊢
  obtain⟨q,h5,hc⟩:=hc
  refine⟨q,h.code h5,?_⟩
  cases hn:isNormal q.exit with
  | false=>rw[hn]at hc;cases hc
  | true =>
    rw[hn]at hc
    simp only[cond_true,Option.bind_eq_some_iff]at hc ⊢
    obtain⟨r2,h6,hc⟩:=hc
    refine⟨r2,h6,?_⟩
    cases hr:isReady r2.state with
    | false=>rw[hr]at hc;cases hc
    | true =>
      rw[hr]at hc
      simp only[cond_true]at hc ⊢
      unfold roundEnd at hc ⊢
      simp only[Option.bind_eq_some_iff]at hc ⊢
      obtain⟨q2,h7,rest⟩:=hc
      exact⟨q2,h.code h7,rest⟩
end
theorem runA_le_succ(E:Env):∀n,(runA E n).le (runA E (n+1)):=by
  intro n
  induction n with
  | zero=>exact⟨fun h=>(by cases h),fun h=>(by cases h),fun h=>(by cases h)⟩
  | succ n ih=>exact⟨fun h=>stepC_mono ih h,fun h=>stepF_mono ih h,fun h=>stepR_mono ih h⟩
theorem Fns.le.refl(F:Fns):F.le F:=⟨id,id,id⟩
theorem Fns.le.trans{F G H:Fns}(h:F.le G)(k:G.le H):F.le H:=⟨fun x=>k.code (h.code x),fun x=>k.call (h.call x),fun x=>k.round (h.round x)⟩
theorem runA_le(E:Env){n m:Nat}(h:n≤m):(runA E n).le (runA E m):=by
  induction h with
  | refl=>exact Fns.le.refl _
  | step _ ih=>exact ih.trans (runA_le_succ E _)
section
variable(E:Env)
def WC(rnd:Option Nat)(c:CCode)(Q:ARes→Prop)(var:List AV)(marks:List Nat)(s:ASt):Prop:=∃n r,(runA E n).code rnd c var marks s=some r∧Q r
def WI(l:List CItem)(K:List AV→ASt→Prop)(loc var:List AV)(s:ASt):Prop:=∃n p,itemsA (runA E n) l loc var s=some p∧K p.1 p.2
def WF(f:FuncId)(as:List AV)(K:AV→ASt→Prop)(s:ASt):Prop:=∃n p,(runA E n).call f as s=some p∧K p.1 p.2
def WR(l:Nat)(as:List AV)(K:AV→ASt→Prop)(s:ASt):Prop:=∃n p,(runA E n).round l as s=some p∧K p.1 p.2
end
section
variable{E:Env}{rnd:Option Nat}{Q Q':ARes→Prop}{var loc:List AV}{marks:List Nat}{s:ASt}{K K':AV→ASt→Prop}{KI:List AV→ASt→Prop}
theorem WC.mono{c:CCode}(h:WC E rnd c Q var marks s)(hq:∀r,Q r→Q' r):WC E rnd c Q' var marks s:=let ⟨n,r,h1,h2⟩:=h;⟨n,r,h1,hq r h2⟩
theorem WF.mono{f:FuncId}{as:List AV}(h:WF E f as K s)(hq:∀v s',K v s'→K' v s'):WF E f as K' s:=let ⟨n,r,h1,h2⟩:=h;⟨n,r,h1,hq _ _ h2⟩
theorem WC.skip(h:Q ⟨.normal,var,marks,s⟩):WC E rnd .skip Q var marks s:=⟨1,_,rfl,h⟩
theorem WC.ret(h:Q ⟨.ret,var,marks,s⟩):WC E rnd .ret Q var marks s:=⟨1,_,rfl,h⟩
theorem WC.exit{id:Nat}(h:Q ⟨.exit id,var,marks,s⟩):WC E rnd (.exit id) Q var marks s:=⟨1,_,rfl,h⟩
def Then(E:Env)(rnd:Option Nat)(b:CCode)(Q:ARes→Prop)(r:ARes):Prop:=match r.exit with
  | .normal=>WC E rnd b Q r.var r.marks r.st
  | _=>Q r
theorem seq_core{a b:CCode}{n:Nat}{r:ARes}(h1:(runA E n).code rnd a var marks s=some r)(h2:Then E rnd b Q r):∃m res,cSeq (runA E m) rnd b ((runA E m).code rnd a var marks s)=some res∧Q res:=by
  unfold Then at h2
  cases he:r.exit with
  | normal =>
    rw[he]at h2
    obtain⟨m,res,h3,h4⟩:=h2
    refine⟨max n m,res,?_,h4⟩
    rw[(runA_le E (Nat.le_max_left n m)).code h1]
    simp only[cSeq,cSeq2,he]
    exact(runA_le E (Nat.le_max_right n m)).code h3
  | exit id=>rw[he]at h2;exact⟨n,r,by rw[h1];simp only[cSeq,cSeq2,he],h2⟩
  | ret=>rw[he]at h2;exact⟨n,r,by rw[h1];simp only[cSeq,cSeq2,he],h2⟩
theorem WC.seq{a b:CCode}(h:WC E rnd a (Then E rnd b Q) var marks s):WC E rnd (.seq a b) Q var marks s:=by
  obtain⟨n,r,h1,h2⟩:=h
  obtain⟨m,res,h3,h4⟩:=seq_core h1 h2
  exact⟨m+1,res,h3,h4⟩
theorem WC.loop{c:CCode}(h:WC E rnd c (Then E rnd (.loop c) Q) var marks s):WC E rnd (.loop c) Q var marks s:=by
  obtain⟨n,r,h1,h2⟩:=h
  obtain⟨m,res,h3,h4⟩:=seq_core h1 h2
  exact⟨m+1,res,h3,h4⟩
theorem WC.cond{x:CX}{a b:CCode}{t:Bool}(hx:cev [] var x=.bool t)(h:WC E rnd (bif t then a else b) Q var marks s):WC E rnd (.cond x a b) Q var marks s:=by
  obtain⟨n,r,h1,h2⟩:=h
  refine⟨n+1,r,?_,h2⟩
  show stepC (runA E n) rnd (.cond x a b) var marks s=some r
  simp only[stepC,cCond,hx]
  cases t<;>exact h1
def InBlock(id:Nat)(Q:ARes→Prop)(r:ARes):Prop:=match r.exit with
  | .exit id'=>bif Nat.beq id' id then Q ⟨.normal,r.var,r.marks,r.st⟩else Q r
  | _=>Q r
theorem WC.block{id:Nat}{c:CCode}(h:WC E rnd c (InBlock id Q) var marks s):WC E rnd (.block id c) Q var marks s:=by
  obtain⟨n,r,h1,h2⟩:=h
  unfold InBlock at h2
  have:∃res,cBlock2 id r=some res∧Q res:=by
    unfold cBlock2
    split at h2
    · rename_i id' he
      simp only[he]
      cases hb:Nat.beq id' id with
      | true=>rw[hb]at h2;exact⟨_,rfl,h2⟩
      | false=>rw[hb]at h2;exact⟨_,rfl,h2⟩
    · rename_i hne
      cases he:r.exit with
      | normal=>exact⟨r,rfl,h2⟩
      | ret=>exact⟨r,rfl,h2⟩
      | exit id'=>exact absurd he (hne id')
  obtain⟨res,h3,h4⟩:=this
  refine⟨n+1,res,?_,h4⟩
  show stepC (runA E n) rnd (.block id c) var marks s=some res
  simp only[stepC,cBlock,h1,h3]
theorem WC.ops{l:List CItem}(h:WI E l (fun v s'=>Q ⟨.normal,v,marks,s'⟩) [] var s):WC E rnd (.ops l) Q var marks s:=by
  obtain⟨n,p,h1,h2⟩:=h
  refine⟨n+1,⟨.normal,p.1,marks,p.2⟩,?_,h2⟩
  show stepC (runA E n) rnd (.ops l) var marks s=_
  simp only[stepC,cOps,h1]
theorem WI.nil(h:KI var s):WI E [] KI loc var s:=⟨0,_,rfl,h⟩
def Dst(E:Env)(ag:List CRd)(d:CDst)(l:List CItem)(KI:List AV→ASt→Prop)(loc var:List AV)(v:AV)(s:ASt):Prop:=match d with
  | .push=>againA s (v::loc) var ag=true∧WI E l KI (v::loc) var s
  | .set j=>againA s loc (upd v var j) ag=true∧WI E l KI loc (upd v var j) s
theorem dst_run{ag:List CRd}{d:CDst}{l:List CItem}{v:AV}(h:Dst E ag d l KI loc var v s):∃n p,(∀m,n≤m→itemDst ag d (itemsA (runA E m) l) loc var v s=some p)∧KI p.1 p.2:=by
  cases d with
  | push =>
    obtain⟨h1,n,p,h2,h3⟩:=h
    exact⟨n,p,fun m hm=>by simp only[itemDst,h1,cond_true];exact itemsA_mono (runA_le E hm) _ _ _ _ _ h2,h3⟩
  | set j =>
    obtain⟨h1,n,p,h2,h3⟩:=h
    exact⟨n,p,fun m hm=>by simp only[itemDst,h1,cond_true];exact itemsA_mono (runA_le E hm) _ _ _ _ _ h2,h3⟩
theorem WI.item{it:CItem}{l:List CItem}{n:Nat}{p:AV×ASt}(hw:wantedA loc var it.guard=true)(hs:shA (runA E n) it.sh it.xs loc var s=some p)(h:Dst E it.again it.dst l KI loc var p.1 p.2):WI E (it::l) KI loc var s:=by
  obtain⟨m,q,h1,h2⟩:=dst_run h
  refine⟨max n m,q,?_,h2⟩
  rw[itemsA_cons]
  unfold item1
  rw[hw]
  simp only[itemRes,shA_mono (runA_le E (Nat.le_max_left n m)) hs]
  exact h1 _ (Nat.le_max_right n m)
theorem WI.off{it:CItem}{l:List CItem}(hw:wantedA loc var it.guard=false)(h:Dst E [] it.dst l KI loc var undefA s):WI E (it::l) KI loc var s:=by
  obtain⟨m,q,h1,h2⟩:=dst_run h
  refine⟨m,q,?_,h2⟩
  rw[itemsA_cons]
  unfold item1
  rw[hw]
  exact h1 _ (Nat.le_refl m)
def Ends(P:Program)(rs:List (CX×Option TypeId))(K:AV→ASt→Prop)(r:ARes):Prop:=isEnd r.exit=true∧∃s',unmark r.st r.marks=some s'∧∃l,resultsA P s' r.var rs=some l∧K (oneOrTuple l) s'
theorem WF.body{f:FuncId}{as:List AV}{cf:CFunc}(hn:E.nat f as s=none)(hf:compFunc E.P f=some cf)(ha:as.length=cf.na)(h:WC E none cf.body (Ends E.P cf.results K) (Ql as cf.nv) [] s):WF E f as K s:=by
  obtain⟨n,r,h1,h2,s',h3,l,h4,h5⟩:=h
  refine⟨n+1,(oneOrTuple l,s'),?_,h5⟩
  show stepF E (runA E n) f as s=_
  simp[stepF,hn,callBody,hf,ha,callEnd,h1,h2,h3,h4]
end
end
end Go.Proofs.Ytilhhmkdcoajnaa.Am
