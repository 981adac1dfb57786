/- Closed calls that the kernel has run, as functions that the abstract machine takes from a table; a package-level table may be read by them; conditions: none. -/
import Derived.Test.YtoaaclpjkelofaaGreatDoorAmM04
import Derived.ChangeArms
import Derived.DataReads
import Derived.DataElems
import Derived.Test.YtoaaclpjkelofaaGreatDoorChecked
import Derived.WideKeyArgs
import Derived.ChangeBears2
import Derived.OpenShut
import GoSem.ClaimJoined
import Derived.Test.YtoaaclpjkelofaaGreatDoorProg
import Derived.Shelf.Strings.OnBuilder
import Derived.Shelf.Strings.Trim
import Derived.Shelf.Strconv.Itoa3
import Derived.Shelf.SlIterI.Nil
import Derived.Shelf.SlIterI.Sorted
import Derived.Shelf.SortM.Plain
import Derived.Shelf.SortM.SortNone
import Derived.Ground.GgzProg
import Derived.Ground.SlgmProg
import Derived.Shelf.SlMaps.Copy
import Derived.Ground.SlmpProg
import Derived.Test.YtoaaclpjkelofaaGreatDoorAmM01
import Derived.Lib.SlKeysI
set_option linter.all false
namespace Go.Proofs.YtoaaclpjkelofaaGreatDoor.Am
open Go
noncomputable section
open Tryz
def JZ:AV→Bool
 | .bool _ | .int _ _ | .str _=>true
 | .ptr none | .map none | .nilFunc | .nilIface=>true
 | .slice none n c=>Nat.beq n 0 && (match c with | some 0=>true | _=>false)
 | _=>false
def J2:List AV→Bool
 | []=>true
 | .agg cs::l=>cs.all JZ && J2 l
 | v::l=>JZ v && J2 l
theorem Ek{ρ σ:DV}{v:AV}{v':Value}(h:JZ v=true)(hr:Cc ρ v v'):Cc σ v v':=by
 cases hr with
 | bool b=>exact .bool b
 | int k n=>exact .int k n
 | str hs=>exact .str hs
 | ptrNil=>exact .ptrNil
 | sliceNil=>exact .sliceNil
 | mapNil=>exact .mapNil
 | nilFunc=>exact .nilFunc
 | nilIface=>exact .nilIface
 | _=>cases h
theorem SQ{ρ σ:DV}:∀ {l:List AV}{l':List Value},l.all JZ=true→Cb ρ l l'→Cb σ l l'
 | [],_,_,h=>by cases h;exact .nil
 | v::l,_,hp,h=>by
  cases h with
  | cons h1 h2 =>
   simp only[List.all_cons,A9W]at hp
   exact .cons (Ek hp.1 h1) (SQ hp.2 h2)
theorem J3{ρ σ:DV}:∀ {l:List AV}{l':List Value},J2 l=true→Cb ρ l l'→Cb σ l l'
  | [],_,_,h=>by cases h;exact .nil
  | v::l,_,hp,h=>by
    cases h with
    | cons h1 h2 =>
      cases v with
      | agg cs =>
        simp only[J2,A9W]at hp
        cases h1 with
        | agg h1=>exact .cons (.agg (SQ hp.1 h1)) (J3 hp.2 h2)
      | _ =>
        simp only[J2,A9W]at hp
        exact .cons (Ek hp.1 h1) (J3 hp.2 h2)
def P2(g:Nat)(cells:List AV):FP:={ elem:=0,sz:=0,n:=cells.length,c:=CT.fill .leaf 0 cells,spare:=false,mode:=.ro,par:=none,bytes:=false,glob:=some g }
def iO(g:Nat)(cells:List AV):CO:=⟨g+1,CT.set .leaf g (.row (P2 g cells))⟩
def Ja(s:CO)(g:Nat)(cells:List AV):Bool:=match s.heap.get g with
 | some (.row r)=>(Nat.beq r.n cells.length && !r.spare) && (match r.glob with | some g'=>Nat.beq g' g | none=>false) && (match r.c.take 0 cells.length with | some l=>IG.eqAs l cells | none=>false)
 | _=>false
structure Row where
 f:FuncId
 args:List AV
 res:AV
def NJ:List Row→FuncId→List AV→Option AV
 | [],_,_=>none
 | r::l,f,xs=>bif Nat.beq r.f f && IG.eqAs r.args xs then some r.res else NJ l f xs
def Vn(g:Nat)(cells:List AV)(fs:List FuncId)(T:List Row):Gl:=fun f xs s=>bif fs.any (Nat.beq f)then (NJ T f xs).bind fun r=>CU (Ja s g cells) (some (r,s))else none
def YA(v:AV):Option (AV×CO)→Bool
 | some (u,_)=>IG v u
 | none=>false
theorem MW:∀ {T:List Row}{f:FuncId}{xs:List AV}{v:AV},NJ T f xs=some v→∃r∈T,r.f=f∧r.args=xs∧r.res=v
 | [],_,_,_,h=>by cases h
 | r::T,f,xs,v,h=>by
  unfold NJ at h
  cases hb:Nat.beq r.f f && IG.eqAs r.args xs with
  | true =>
   rw[hb]at h
   injection h with h
   simp only[A9W]at hb
   exact⟨r,A8M,A8R hb.1,I0 hb.2,h⟩
  | false =>
   rw[hb]at h
   obtain⟨q,h1,h2⟩:=MW h
   exact⟨q,A8J _ h1,h2⟩
section
variable{P:Program}{ρ ρ1 ρ2:DV}{s s1 s2:CO}{w w1 w2:World}
theorem JB(g:Nat)(cells:List AV)(i:Nat):(iO g cells).heap.get i=if i=g then some (.row (P2 g cells))else none:=by
 show(CT.set .leaf g _).get i=_
 rw[CT.get_set]
 rfl
theorem XP{g:Nat}{cells:List AV}(h:Ja s g cells=true):∃r,s.heap.get g=some (.row r)∧r.n=cells.length∧r.glob=some g∧r.spare=false∧∀k,k<cells.length→r.c.get k=cells[k]? := by
 unfold Ja at h
 split at h<;>first | (cases h;done) | skip
 rename_i r hg
 simp only[A9W]at h
 obtain⟨⟨h1,h2⟩,h3⟩:=h
 simp only[A9Y]at h1
 refine⟨r,hg,A8R h1.1,?_,h1.2,?_⟩
 ·split at h2<;>first | (cases h2;done) | skip
  rename_i g' hg'
  rw[hg',A8R h2]
 ·split at h3<;>first | (cases h3;done) | skip
  rename_i l hl
  have:=I0 h3
  subst this
  intro k hk
  have:=CT.take_get hl k hk
  simpa using this
theorem gD(hm:P.follows .mixedOrders=true)(hng:Gp P){E:Dw}(hE:E.P=P)(hnat:Du P E.nat){n g:Nat}{cells:List AV}(hcells:cells.all JZ=true){fs:List FuncId}{T:List Row}
    (hT:∀r∈T,J2 r.args=true∧JZ r.res=true∧YA r.res ((FI E n).call r.f r.args (iO g cells))=true):Du P (Vn g cells fs T):=by
  intro ρ s w f xs v s1 as' hc h hf ha
  unfold Vn at hc
  cases hfs:fs.any (Nat.beq f)with
  | false=>rw[hfs]at hc;cases hc
  | true =>
    rw[hfs]at hc
    simp only[cond_true,A8G]at hc
    obtain⟨u,hu,hc⟩:=hc
    obtain⟨hg,hc⟩:=CM hc
    injection hc with hc
    injection hc with e1 e2
    subst e1;subst e2
    obtain⟨r,hr,rfl,rfl,rfl⟩:=MW hu
    obtain⟨p1,p2,p3⟩:=hT r hr
    obtain⟨r0,q1,q2,q3,q5,q4⟩:=XP hg
    obtain⟨rb,hrb⟩:=h.glb g _ g q1 q3
    have hok:Dr ρ w r0 rb:=h.obj g _ rb q1 hrb
    obtain⟨hb,hoff,cs9,e9,pl9,hblk9,hsz9⟩:=hok.gl g q3
    cases hrun:(FI E n).call r.f r.args (iO g cells)with
    | none=>rw[hrun]at p3;cases p3
    | some p =>
      obtain⟨v0,s2⟩:=p
      rw[hrun]at p3
      have hv0:r.res=v0:=HM (show IG r.res v0=true from p3)
      subst hv0
      let rb1:RB:=⟨rb.b,rb.off,cells.length,0⟩
      let ρ0:DV:=fun i=>if i=g then some rb1 else none
      have hρ:∀i x,ρ0 i=some x→i=g∧x=rb1:=fun i x hx=>by
        simp only[ρ0]at hx
        split at hx
        · injection hx with hx;exact⟨‹_›,hx.symm⟩
        · cases hx
      have hinv:DU P ρ0 (iO g cells) w:=by
        refine⟨?_,?_,?_,?_⟩
        · intro i o x hi hx
          obtain⟨rfl,rfl⟩:=hρ i x hx
          rw[JB,if_pos rfl]at hi
          injection hi with hi
          subst hi
          refine(show Dr ρ0 w (P2 i cells) rb1 from⟨?_,A8H _,rfl,(fun _=>rfl),fun hh=>absurd rfl hh,(fun hh=>by cases hh),fun g' hg'=>?_,fun p hp=>by cases hp⟩)
          · intro k v hk hv
            have hk':k<cells.length:=hk
            have hv':cells[k]? = some v:=by
              have:(CT.fill .leaf 0 cells).get k=some v:=hv
              rw[CT.get_fill,if_pos ⟨A8T _,by omega⟩]at this
              simpa using this
            obtain⟨v',k1,k2⟩:=hok.cells k v (by omega) (by rw[q4 k hk'];exact hv')
            have hpl:JZ v=true:=A8w.1 hcells v (A8a hv')
            exact⟨v',k1,Ek hpl k2⟩
          · have:some i=some g':=hg'
            injection this with this
            subst this
            exact⟨hb,hoff,cs9,e9,pl9,hblk9,by rw[hsz9,hok.tight q5];exact q2⟩
        · intro i x hx
          obtain⟨rfl,rfl⟩:=hρ i x hx
          exact h.lt i rb hrb
        · intro i j oi oj ri rj hne hi hj hri hrj
          exact absurd ((hρ i ri hri).1.trans (hρ j rj hrj).1.symm) hne
        · intro i o g' hi _
          rw[JB]at hi
          split at hi
          · rename_i e;exact⟨rb1,by simp[ρ0,e]⟩
          · cases hi
      have hfr:DB ρ0 (iO g cells):=fun i hi=>by
        have hi:g+1≤i:=hi
        refine⟨by simp only[ρ0];rw[if_neg (by omega)],?_⟩
        rw[JB,if_neg (by omega)]
      have hcall:=(A3r hm hng hE hnat n).call ρ0 (iO g cells) w r.f r.args r.res s2 as' hrun hinv hfr (J3 p1 ha)
      refine⟨hcall.1,CallsIn.mono hcall.2 ?_⟩
      intro e w' he
      cases e with
      | panicked c=>exact he.elim
      | outgrown=>exact he.elim
      | returned v' =>
        obtain⟨ρ',k1,k2,k3⟩:=he
        have hno:∀b,¬ Hg ρ0 (iO g cells) b:=by
          rintro b ⟨i,o,x,hi,hw,_,_⟩
          rw[JB]at hi
          split at hi
          · injection hi with hi;subst hi;cases hw
          · cases hi
        obtain⟨g1,g2⟩:=h.grown (w1:=w') ⟨k3.os,k3.tape,k3.output,k3.size,fun b hb' _=>k3.keep b hb' (hno b)⟩
        exact⟨ρ,Ek p2 k1,g1,g2⟩
end
theorem Xm{α β:Type}{f:α→Option β}:∀ {l:List α}{r:List β},l.mapM f=some r→r.length=l.length∧∀ (k:Nat)(a:α),l[k]? = some a→f a=r[k]?
 | [],r,h=>by
  simp at h
  subst h
  exact⟨rfl,fun k a hk=>by simp at hk⟩
 | x::l,r,h=>by
  rw[List.mapM_cons]at h
  simp only[bind,pure,A8G]at h
  obtain⟨y,h1,r',h2,h3⟩:=h
  injection h3 with h3
  subst h3
  obtain⟨g1,g2⟩:=Xm h2
  refine⟨by simp[g1],fun k a hk=>?_⟩
  cases k with
  | zero=>simp at hk;subst hk;simpa using h1
  | succ k=>simpa using g2 k a (by simpa using hk)
theorem OO{w:World}{a:Addr}{n:Nat}{cs:List Value}(h:w.cells? 0 a n=some cs):cs.length=n∧∀j,j<n→w.cell? (a.add j)=cs[j]? := by
 unfold World.cells? at h
 rw[if_pos (A8T _)]at h
 obtain⟨g1,g2⟩:=Xm h
 exact⟨by simpa using g1,fun j hj=>g2 j j (by simp[hj])⟩
theorem cQ{w:World}{a:Addr}{v:Value}(h:w.cell? a=some v):a.block<w.heap.size:=by
 unfold World.cell? at h
 cases hb:w.heap[a.block]? with
 | none=>rw[hb]at h;cases h
 | some o =>
  rcases A8N a.block w.heap.size with h' | h'
  ·exact h'
  ·rw[Array.getElem?_eq_none h']at hb;cases hb
theorem bU(b off n:Nat):(⟨b,off,none⟩:Addr).add n=⟨b,off+n,none⟩:=by
 unfold Addr.add
 split
 ·rename_i h;subst h;rfl
 ·rfl
section
variable{H:Type}{enc:TypeId×Value→H}{P:Program}{w:World}{held:Bool}
theorem ae{t e:TypeId}{sz:Nat}(ht:P.underlying t=some (.slice e))(hsz:P.cellsOf e=sz)(h0:0<sz){fuel:Nat}{cs:List Value}{x:DataW H×List MemPlace}(h:DataW.trod enc P w 0 (fun _=>true) held fuel t cs=some x):
    cs=[.slice none 0 0]∨(∃a,cs=[.slice (some a) 0 0]) ∨
    ∃ (b off len cap n:Nat),cs=[.slice (some ⟨b,off,none⟩) len cap]∧len≤cap∧cap≤maxLen∧b<w.heap.size ∧
      ∀i,i<len→∃cs' y,DataW.trod enc P w 0 (fun _=>true) held n e cs'=some y∧cs'.length=sz∧∀j,j<sz→w.cell? ⟨b,off+i * sz+j,none⟩=cs'[j]? := by
  rcases DataW.trod_slice ht h with⟨h1,_⟩ | ⟨a,len,cap,elems,rest,n,h1,h2,h3,h4,h5,h6,h7,h8,h9,_⟩
  · exact .inl h1
  · rw[hsz]at h8 h9
    obtain⟨h9,h10⟩:=h9 rfl
    rcases A9D cap with rfl | hcap
    · have:len=0:=by omega
      subst this
      exact .inr (.inl ⟨a,h2⟩)
    ·
      have first:∃v,w.cell? a=some v:=by
        rcases A9D len with hl | hl
        · subst hl
          have:=h10 0 (by omega)
          have hlt:0<rest.length:=by omega
          rw[A8O hlt]at this
          simp only[A8G]at this
          obtain⟨cs',g1,_⟩:=this
          obtain⟨g2,g3⟩:=OO g1
          have g4:=g3 0 h0
          rw[A8O (show 0<cs'.length by omega)]at g4
          exact⟨_,by simpa[Addr.add]using g4⟩
        · have:=h8 0 hl
          rw[A8O (show 0<elems.length by omega)]at this
          simp only[A8G]at this
          obtain⟨cs',g1,_⟩:=this
          obtain⟨g2,g3⟩:=OO g1
          have g4:=g3 0 h0
          rw[A8O (show 0<cs'.length by omega)]at g4
          exact⟨_,by simpa[Addr.add]using g4⟩
      obtain⟨v,hv⟩:=first
      have hspot:=World.cell?_spot hv
      have hlt:=cQ hv
      obtain⟨b,off,spot⟩:=a
      have hspot:spot=none:=hspot
      subst hspot
      refine .inr (.inr ⟨b,off,len,cap,n,h2,h5,h6,hlt,fun i hi=>?_⟩)
      have:=h8 i hi
      rw[A8O (show i<elems.length by omega)]at this
      simp only[A8G]at this
      obtain⟨cs',g1,g2⟩:=this
      obtain⟨g3,g4⟩:=OO g1
      refine⟨cs',_,g2,g3,fun j hj=>?_⟩
      have:=g4 j hj
      rw[bU,bU]at this
      exact this
structure Mw(P:Program)(w:World)(ρ:DV)(s:CO):Prop where
 inv:DU P ρ s w
 fresh:DB ρ s
 ro:∀i o,s.heap.get i=some o→wr o=false
theorem A5c{g:Nat}{cells:List AV}(hb:g<w.heap.size)(hsz:∃cs e pl,w.heap[g]? = some (.cells cs e pl)∧cs.size=cells.length)(hc:∀k v,cells[k]? = some v→∃v',w.cell? ⟨g,k,none⟩=some v'∧Cc pg v v'):∃ρ,Mw P w ρ (iO g cells):=by
  let rb1:RB:=⟨g,0,cells.length,0⟩
  let ρ0:DV:=fun i=>if i=g then some rb1 else none
  have hρ:∀i x,ρ0 i=some x→i=g∧x=rb1:=fun i x hx=>by
    simp only[ρ0]at hx
    split at hx
    · injection hx with hx;exact⟨‹_›,hx.symm⟩
    · cases hx
  have hle:pg.le ρ0:=fun i rb h=>by cases h
  refine⟨ρ0,⟨?_,?_,?_,?_⟩,fun i hi=>?_,fun i o hi=>?_⟩
  · intro i o x hi hx
    obtain⟨rfl,rfl⟩:=hρ i x hx
    rw[JB,if_pos rfl]at hi
    injection hi with hi
    subst hi
    refine(show Dr ρ0 w (P2 i cells) rb1 from⟨?_,A8H _,rfl,(fun _=>rfl),fun hh=>absurd rfl hh,(fun hh=>by cases hh),fun g' hg'=>?_,fun p hp=>by cases hp⟩)
    · intro k v hk hv
      have hk':k<cells.length:=hk
      have hv':cells[k]? = some v:=by
        have:(CT.fill .leaf 0 cells).get k=some v:=hv
        rw[CT.get_fill,if_pos ⟨A8T _,by omega⟩]at this
        simpa using this
      obtain⟨v',k1,k2⟩:=hc k v hv'
      exact⟨v',by simpa[rb1]using k1,k2.mono hle⟩
    · have:some i=some g':=hg'
      injection this with this
      subst this
      exact⟨rfl,rfl,hsz⟩
  · intro i x hx
    obtain⟨rfl,rfl⟩:=hρ i x hx
    exact hb
  · intro i j oi oj ri rj hne hi hj hri hrj
    exact absurd ((hρ i ri hri).1.trans (hρ j rj hrj).1.symm) hne
  · intro i o g' hi _
    rw[JB]at hi
    split at hi
    · rename_i e;exact⟨rb1,by simp[ρ0,e]⟩
    · cases hi
  · have hi:g+1≤i:=hi
    refine⟨by simp only[ρ0];rw[if_neg (by omega)],?_⟩
    rw[JB,if_neg (by omega)]
  · rw[JB]at hi
    split at hi
    · injection hi with hi;subst hi;rfl
    · cases hi
theorem Mw.notOwned{ρ:DV}{s:CO}(h:Mw P w ρ s)(b:Nat):¬ Hg ρ s b:=fun⟨i,o,rb,h1,h2,_⟩=>by rw[h.ro i o h1]at h2;cases h2
def A0n(e:TypeId)(sz:Nat)(cs:List AV):Cg:=.row { elem:=e,sz,n:=cs.length,c:=CT.fill .leaf 0 cs,spare:=false,mode:=.ro,par:=none,bytes:=false }
theorem pi{cs:List AV}{k:Nat}{u:AV}(h:cs[k]? = some u):(CT.fill .leaf 0 cs).get k=some u:=by
 have hlt:k<cs.length:=by
  rcases A8N k cs.length with h' | h'
  ·exact h'
  ·rw[A8W h']at h;cases h
 rw[CT.get_fill,if_pos ⟨A8T _,by omega⟩]
 simpa using h
theorem Mw.row{ρ:DV}{s:CO}(h:Mw P w ρ s)(e:TypeId)(sz b off:Nat)(cs:List AV)(hb:b<w.heap.size)(hc:∀k u,cs[k]? = some u→∃v,w.cell? ⟨b,off+k,none⟩=some v∧Cc ρ u v):
    ∃ρ',Mw P w ρ' (newObj s (A0n e sz cs))∧ρ.le ρ'∧ρ' s.next=some ⟨b,off,cs.length,sz⟩:=by
  have hf:=h.fresh s.next (A8H _)
  have hle:=Dc (rb:=⟨b,off,cs.length,sz⟩) hf.1
  refine⟨EX ρ s.next ⟨b,off,cs.length,sz⟩,⟨⟨?_,?_,?_,?_⟩,?_,?_⟩,hle,Cf _ _⟩
  · intro i o rb hi hr
    rw[DH]at hi
    by_cases e':i=s.next
    · subst e'
      rw[if_pos rfl]at hi
      injection hi with hi
      subst hi
      rw[Cf]at hr
      injection hr with hr
      subst hr
      refine⟨fun k v hk hv=>?_,A8H _,rfl,fun _=>rfl,fun hm=>absurd rfl hm,(fun hh=>by cases hh),(fun g hg=>by cases hg),fun p hp=>by cases hp⟩
      have hk:k<cs.length:=hk
      have hv:(CT.fill .leaf 0 cs).get k=some v:=hv
      have hu:cs[k]? = some cs[k]:=A8O hk
      rw[pi hu]at hv
      injection hv with hv
      subst hv
      obtain⟨v',h1,h2⟩:=hc k _ hu
      exact⟨v',h1,h2.mono hle⟩
    · rw [if_neg e'] at hi
      rw[CZ _ e']at hr
      exact(h.inv.obj i o rb hi hr).mono hle rfl
  · intro i rb hr
    by_cases e':i=s.next
    · subst e'
      rw[Cf]at hr
      injection hr with hr
      subst hr
      exact hb
    · rw[CZ _ e']at hr
      exact h.inv.lt i rb hr
  · intro i j oi oj ri rj _ _ hj _ _ _ hw
    rw[DH]at hj
    by_cases e':j=s.next
    · rw[if_pos e']at hj
      injection hj with hj
      subst hj
      cases hw
    · rw [if_neg e'] at hj
      rw[h.ro j oj hj]at hw
      cases hw
  · intro i o g hi hg
    rw[DH]at hi
    by_cases e':i=s.next
    · rw[if_pos e']at hi
      injection hi with hi
      subst hi
      cases hg
    · rw[if_neg e']at hi
      obtain⟨rb,hr⟩:=h.inv.glb i o g hi hg
      exact⟨rb,by rw[CZ _ e'];exact hr⟩
  · intro i hi
    have hi:s.next+1≤i:=hi
    refine⟨?_,?_⟩
    · rw[CZ _ (by omega)];exact(h.fresh i (by omega)).1
    · rw[DH,if_neg (by omega)];exact(h.fresh i (by omega)).2
  · intro i o hi
    rw[DH]at hi
    by_cases e':i=s.next
    · rw[if_pos e']at hi
      injection hi with hi
      subst hi
      rfl
    · rw[if_neg e']at hi
      exact h.ro i o hi
def bN(P:Program)(w:World){α:Type}(p:CO→List AV→α→Prop)(cs:List Value)(ρ:DV)(s:CO):Prop:=
 ∃ρ' s' us x,Mw P w ρ' s'∧ρ.le ρ'∧DL s.next s s'∧Cb ρ' us cs∧p s' us x
theorem Zl{α:Type}{p:CO→List AV→α→Prop}(hp:∀s s' us x,p s us x→DL s.next s s'→p s' us x){sz b off len:Nat}
    (hel:∀i,i<len→∃cs':List Value,cs'.length=sz∧(∀j,j<sz→w.cell? ⟨b,off+i * sz+j,none⟩=cs'[j]?)∧∀ρ s,Mw P w ρ s→bN P w p cs' ρ s):
    ∀ (m : Nat), m ≤ len → ∀ ρ s, Mw   P w ρ s → ∃ (ρ' : DV)  (s' : CO)  (us : List AV) (xs : List α), Mw   P w ρ' s' ∧ ρ.le ρ' ∧ DL  s.next s s' ∧ us.length = m * sz ∧ xs.length = m ∧
      (∀k u,us[k]? = some u→∃v,w.cell? ⟨b,off+k,none⟩=some v∧Cc ρ' u v)∧∀ (k:Nat) (x:α),xs[k]? = some x→p s' ((us.drop (k * sz)).take sz) x:=by
  intro m
  induction m with
  | zero=>intro _ ρ s h;exact⟨ρ,s,[],[],h,DV.le_refl ρ,DL.refl _ _,by simp,rfl,fun k u hk=>by simp at hk,fun k x hk=>by simp at hk⟩
  | succ m ih =>
    intro hm ρ s h
    obtain⟨ρ1,s1,us,xs,g1,g2,g3,g4,g5,g6,g7⟩:=ih (by omega) ρ s h
    obtain⟨cs',k1,k2,k3⟩:=hel m (by omega)
    obtain⟨ρ2,s2,vs,y,q1,q2,q3,q4,q5⟩:=k3 ρ1 s1 g1
    have hvl:vs.length=sz:=by rw[q4.length,k1]
    refine⟨ρ2,s2,us++vs,xs++[y],q1,DV.le_trans g2 q2,g3.trans (q3.mono g3.1),by rw[A8X,g4,hvl,A8o,Nat.one_mul],by simp[g5],fun k u hk=>?_,fun k x hk=>?_⟩
    · rcases A8N          k us.length with hlt | hge
      · rw[A8d hlt]at hk
        obtain⟨v,e1,e2⟩:=g6 k u hk
        exact⟨v,e1,e2.mono q2⟩
      · rw[A8g hge]at hk
        have hj:k - us.length<sz:=by
          rcases A8N (k - us.length) vs.length with h' | h'
          · omega
          · rw[A8W h']at hk;cases hk
        obtain⟨v,e1,e2⟩:=q4.get hk
        refine⟨v,?_,e2⟩
        have:=k2 (k - us.length) hj
        rw[e1]at this
        rw[show off+k=off+m * sz+(k - us.length) by omega]
        exact this
    · rcases A8N          k m with hlt | hge
      · rw[A8d (by omega)]at hk
        have:=hp s1 s2 _ _ (g7 k x hk) q3
        have hks:(k+1) * sz≤m * sz:=A8t _ hlt
        rw[A8o,Nat.one_mul]at hks
        rw[List.drop_append_of_le_length (by omega),List.take_append_of_le_length (by rw[List.length_drop];omega)]
        exact this
      · rw[A8g (by omega)]at hk
        have hk0:k=m:=by
          rcases A8N (k - xs.length) 1 with h' | h'
          · omega
          · rw[A8W (by simpa using h')]at hk;cases hk
        subst hk0
        have hxy:y=x:=by simpa[g5]using hk
        subst hxy
        rw[← g4,List.drop_left' rfl,A8m (by omega)]
        exact q5
def A3t(s:CO)(a:Option (Nat×Nat))(cap:Option Nat)(n sz:Nat):Prop:=(∃c,cap=some c∧n≤c∧(a=none→c=0))∨(n=0∧cap=none∧∃i r,a=some (i,0)∧i<s.next∧s.heap.get i=some (.row r)∧r.sz=sz)
def bS{α:Type}(p:CO→List AV→α→Prop)(sz:Nat)(s:CO)(us:List AV)(xs:List α):Prop:=
 ∃a cap,us=[.slice a xs.length cap]∧xs.length≤maxLen∧A3t s a cap xs.length sz∧∀ (k:Nat) (x:α),xs[k]? = some x→∃i o vs,a=some (i,o)∧i<s.next∧vs.length=sz∧(∀j u,vs[j]? = some u→FQ s i (o+k * sz+j)=some u)∧p s vs x
theorem XF{α:Type}{p:CO→List AV→α→Prop}(hp:∀s s' us x,p s us x→DL s.next s s'→p s' us x){t e:TypeId}{sz:Nat}(ht:P.underlying t=some (.slice e))(hsz:P.cellsOf e=sz)(h0:0<sz)
    (hel:0<w.heap.size→∀ (n:Nat) (cs:List Value) (y:DataW H×List MemPlace),DataW.trod enc P w 0 (fun _=>true) held n e cs=some y→cs.length=sz→∀ρ s,Mw P w ρ s→bN P w p cs ρ s)
    {fuel:Nat} {cs:List Value} {x:DataW H×List MemPlace} (h:DataW.trod enc P w 0 (fun _=>true) held fuel t cs=some x) (hw:∀a,cs=[.slice (some a) 0 0]→0<w.heap.size) {ρ:DV} {s:CO} (hd:Mw P w ρ s):bN P w (bS p sz) cs ρ s:=by
  rcases ae ht hsz h0 h with rfl | ⟨a,rfl⟩ | ⟨b,off,len,cap,n,rfl,h1,h2,h3,h4⟩
  · exact⟨ρ,s,[.slice none 0 (some 0)],[],hd,DV.le_refl ρ,DL.refl _ _,.cons .sliceNil .nil,none,some 0,rfl,A8T _,.inl ⟨0,rfl,A8H _,fun _=>rfl⟩,fun k x hk=>by simp at hk⟩
  · obtain⟨ρ',g1,g2,g3⟩:=hd.row e sz 0 0 [] (hw a rfl) (fun k u hk=>by simp at hk)
    exact⟨ρ',_,[.slice (some (s.next,0)) 0 none],[],g1,g2,DL.new s _,.cons (.sliceEnd g3 h0 (A8H _) (by show 0<0+sz;omega)) .nil,_,_,rfl,A8T _,.inr ⟨rfl,rfl,s.next,{ elem:=e,sz,n:=0,c:=CT.fill .leaf 0 [],spare:=false,mode:=.ro,par:=none,bytes:=false },rfl,A8k _,by rw[DH,if_pos rfl];rfl,rfl⟩,fun k x hk=>by simp at hk⟩
  · obtain⟨ρ1,s1,us,xs,g1,g2,g3,g4,g5,g6,g7⟩:=Zl (w:=w) (P:=P) hp (sz:=sz) (b:=b) (off:=off) (len:=len) (fun i hi=>by
      obtain⟨cs',y,q1,q2,q3⟩:=h4 i hi
      exact⟨cs',q2,q3,fun ρ s hd=>hel (by omega) n cs' y q1 q2 ρ s hd⟩) len (A8H _) ρ s hd
    obtain⟨ρ2,k1,k2,k3⟩:=g1.row e sz b off us h3 g6
    have o2:DL s1.next s1 (newObj s1 (A0n e sz us)):=DL.new s1 _
    refine⟨ρ2,_,[.slice (some (s1.next,0)) xs.length (some cap)],xs,k1,DV.le_trans g2 k2,g3.trans (o2.mono g3.1),?_,some (s1.next,0),some cap,rfl,by omega,.inl ⟨cap,rfl,by omega,fun h=>by cases h⟩,fun k x hk=>?_⟩
    · rw[g5]
      exact .cons (.slice k3 h1) .nil
    · have hkl:k<len:=by
        rcases A8N k xs.length with h' | h'
        · omega
        · rw[A8W h']at hk;cases hk
      have hks:(k+1) * sz≤len * sz:=A8t _ hkl
      rw[A8o,Nat.one_mul]at hks
      refine⟨s1.next,0,(us.drop (k * sz)).take sz,rfl,A8k _,by rw[List.length_take,List.length_drop];omega,fun j u hj=>?_,hp s1 _ _ _ (g7 k x hk) o2⟩
      rw[List.getElem?_take]at hj
      split at hj
      · rename_i hjs
        rw[A8y]at hj
        rw[A8V]
        exact Of (r:={ elem:=e,sz,n:=us.length,c:=CT.fill .leaf 0 us,spare:=false,mode:=.ro,par:=none,bytes:=false }) (by rw[DH,if_pos rfl];rfl) (by show k * sz+j<us.length;omega) (pi hj)
      · cases hj
end
end
end Go.Proofs.YtoaaclpjkelofaaGreatDoor.Am
set_option linter.all false
namespace Go.Proofs.YtoaaclpjkelofaaGreatDoor.Am
open Go Go.Proofs
noncomputable section
open Tryz
theorem reads_again{H:Type}{enc:TypeId×Value→H}{P:Program}{t:TypeId}(hl:laidOutB P=true)(hr:P.readableRec t=true)(hrow:t<P.types.size){W W':World}{v:Value}{d:DataW H}{ps:List MemPlace}{sp:Nat→Bool}
  (h:DataW.Trod enc P W 0 (fun _=>true) true t v d ps) (hk:Ul W W') (hlt:∀x∈ps,x.block<W.heap.size) (hs:∀x∈ps,sp x.block=true):DataW.Trod enc P W' 0 sp true t v d ps:=
 WideElems.Trod_stays hl hr hrow h (fun x hx=>by
  have:=hlt x hx
  cases x with
  | cell b o=>exact World.cell?_of_block (w:=W) (hk.heap b this)
  | map b=>exact hk.heap b this) hs
end
end Go.Proofs.YtoaaclpjkelofaaGreatDoor.Am
set_option linter.all false
namespace Go.Proofs.YtoaaclpjkelofaaGreatDoor.Am
open Go Go.Proofs Go.Shelf
noncomputable section
open Tryz
def PQ:Go.Shelf.Ren:=⟨fun | 156=>86 | 165=>120 | 166=>58 | 169=>60 | 240=>95 | 241=>154 | 276=>123 | 277=>178 | n=>n,fun | 31=>28 | 9=>9 | 3=>3 | 4=>4 | 0=>0 | 20=>20 | 72=>108 | 76=>112 | 70=>106 | 37=>22 | 75=>111 | 127=>144 | 164=>164 | 5=>5 | 80=>114 | n=>n,fun | n=>n⟩
theorem dV:Go.Proofs.Lays.n156 prog PQ:={
 mixed:=by kernel_rfl
 f156:=func86.trans (congrArg some (by kernel_rfl))
 f165:=func120.trans (congrArg some (by kernel_rfl))
 f166:=func58.trans (congrArg some (by kernel_rfl))
 f169:=func60.trans (congrArg some (by kernel_rfl))
 f240:=func95.trans (congrArg some (by kernel_rfl))
 f241:=func154.trans (congrArg some (by kernel_rfl))
 f276:=func123.trans (congrArg some (by kernel_rfl))
 f277:=func178.trans (congrArg some (by kernel_rfl))
 t0:=underlying0
 a0:=isAgg0
 z0:=sizeOf0
 v0:=zeroValue0
 t3:=underlying3
 a3:=isAgg3
 z3:=sizeOf3
 v3:=zeroValue3
 t4:=underlying4
 a4:=isAgg4
 z4:=sizeOf4
 v4:=zeroValue4
 t9:=underlying9
 a9:=isAgg9
 z9:=sizeOf9
 v9:=zeroValue9
 t20:=underlying20
 a20:=isAgg20
 z20:=sizeOf20
 v20:=zeroValue20
 t31:=underlying28
 a31:=isAgg28
 z31:=sizeOf28
 v31:=zeroValue28
 t37:=underlying22
 a37:=isAgg22
 z37:=sizeOf22
 v37:=zeroValue22
 t70:=underlying106
 a70:=isAgg106
 z70:=sizeOf106
 v70:=zeroValue106
 t72:=underlying108
 a72:=isAgg108
 z72:=sizeOf108
 v72:=zeroValue108
 t75:=underlying111
 a75:=isAgg111
 z75:=sizeOf111
 v75:=zeroValue111
 t76:=underlying112
 a76:=isAgg112
 z76:=sizeOf112
 v76:=zeroValue112
 t127:=underlying144
 a127:=isAgg144
 z127:=sizeOf144
 v127:=zeroValue144
 t164:=underlying164
 a164:=isAgg164
 z164:=sizeOf164
 v164:=zeroValue164 }
theorem R4:Builder.Extra prog PQ:={
 sizeBuilder:=by kernel_rfl
 liesBuilder:=by kernel_rfl
 t5:=underlying5
 a5:=isAgg5
 z5:=sizeOf5
 v5:=zeroValue5
 infoByte:=by kernel_rfl
 cellsByte:=by kernel_rfl
 sizeByte:=by kernel_rfl
 neB5:=by decide }
def Vh:Go.Shelf.Ren:=⟨fun | 171=>59 | 243=>96 | 246=>124 | 283=>157 | 284=>158 | 285=>159 | 286=>160 | 129=>143 | 317=>184 | 318=>185 | 319=>186 | 320=>187 | 337=>207 | 338=>208 | n=>n,fun | 3=>3 | 9=>9 | 2=>2 | 4=>4 | 171=>197 | 0=>0 | 53=>187 | 37=>22 | 5=>5 | 173=>199 | 212=>227 | 51=>185 | 20=>20 | 213=>228 | 46=>143 | 232=>266 | 233=>267 | n=>n,fun | 17=>1 | 18=>2 | 19=>3 | n=>n⟩
theorem oK:Go.Proofs.Lays.n171 prog Vh:={
 mixed:=by kernel_rfl
 f129:=func143.trans (congrArg some (by kernel_rfl))
 f171:=func59.trans (congrArg some (by kernel_rfl))
 f243:=func96.trans (congrArg some (by kernel_rfl))
 f246:=func124.trans (congrArg some (by kernel_rfl))
 f283:=func157.trans (congrArg some (by kernel_rfl))
 f284:=func158.trans (congrArg some (by kernel_rfl))
 f285:=func159.trans (congrArg some (by kernel_rfl))
 f286:=func160.trans (congrArg some (by kernel_rfl))
 f317:=func184.trans (congrArg some (by kernel_rfl))
 f318:=func185.trans (congrArg some (by kernel_rfl))
 f319:=func186.trans (congrArg some (by kernel_rfl))
 f320:=func187.trans (congrArg some (by kernel_rfl))
 f337:=func207.trans (congrArg some (by kernel_rfl))
 f338:=func208.trans (congrArg some (by kernel_rfl))
 t0:=underlying0
 a0:=isAgg0
 z0:=sizeOf0
 v0:=zeroValue0
 t2:=underlying2
 a2:=isAgg2
 z2:=sizeOf2
 v2:=zeroValue2
 t3:=underlying3
 a3:=isAgg3
 z3:=sizeOf3
 v3:=zeroValue3
 t4:=underlying4
 a4:=isAgg4
 z4:=sizeOf4
 v4:=zeroValue4
 t5:=underlying5
 a5:=isAgg5
 z5:=sizeOf5
 v5:=zeroValue5
 t9:=underlying9
 a9:=isAgg9
 z9:=sizeOf9
 v9:=zeroValue9
 t20:=underlying20
 a20:=isAgg20
 z20:=sizeOf20
 v20:=zeroValue20
 t37:=underlying22
 a37:=isAgg22
 z37:=sizeOf22
 v37:=zeroValue22
 t46:=underlying143
 a46:=isAgg143
 z46:=sizeOf143
 v46:=zeroValue143
 t51:=underlying185
 a51:=isAgg185
 z51:=sizeOf185
 v51:=zeroValue185
 t53:=underlying187
 a53:=isAgg187
 z53:=sizeOf187
 v53:=zeroValue187
 t171:=underlying197
 a171:=isAgg197
 z171:=sizeOf197
 v171:=zeroValue197
 t173:=underlying199
 a173:=isAgg199
 z173:=sizeOf199
 v173:=zeroValue199
 t212:=underlying227
 a212:=isAgg227
 z212:=sizeOf227
 v212:=zeroValue227
 t213:=underlying228
 a213:=isAgg228
 z213:=sizeOf228
 t232:=underlying266
 a232:=isAgg266
 z232:=sizeOf266
 v232:=zeroValue266
 t233:=underlying267
 a233:=isAgg267
 z233:=sizeOf267
 v233:=zeroValue267
 g17:=by kernel_rfl
 g18:=by kernel_rfl
 g19:=by kernel_rfl }
def Xa:Go.Shelf.Ren:=⟨fun | 171=>59 | 243=>96 | 246=>124 | 283=>157 | 284=>158 | 285=>159 | 286=>160 | 129=>143 | 317=>184 | 318=>185 | 319=>186 | 320=>187 | 337=>207 | 338=>208 | n=>n,fun | 3=>3 | 9=>9 | 2=>2 | 4=>4 | 171=>197 | 0=>0 | 53=>187 | 37=>22 | 5=>5 | 173=>199 | 212=>227 | 51=>185 | 20=>20 | 213=>228 | 46=>143 | 232=>266 | 233=>267 | n=>n,fun | 17=>1 | 18=>2 | 19=>3 | n=>n⟩
theorem tB:Go.Proofs.LaysM.n171 prog Xa:={
 mixed:=by kernel_rfl
 f129:=func143.trans (congrArg some (by kernel_rfl))
 f171:=func59.trans (congrArg some (by kernel_rfl))
 f243:=func96.trans (congrArg some (by kernel_rfl))
 f246:=func124.trans (congrArg some (by kernel_rfl))
 f283:=func157.trans (congrArg some (by kernel_rfl))
 f284:=func158.trans (congrArg some (by kernel_rfl))
 f285:=func159.trans (congrArg some (by kernel_rfl))
 f286:=func160.trans (congrArg some (by kernel_rfl))
 f317:=func184.trans (congrArg some (by kernel_rfl))
 f318:=func185.trans (congrArg some (by kernel_rfl))
 f319:=func186.trans (congrArg some (by kernel_rfl))
 f320:=func187.trans (congrArg some (by kernel_rfl))
 f337:=func207.trans (congrArg some (by kernel_rfl))
 f338:=func208.trans (congrArg some (by kernel_rfl))
 t0:=underlying0
 a0:=isAgg0
 z0:=sizeOf0
 v0:=zeroValue0
 t2:=underlying2
 a2:=isAgg2
 z2:=sizeOf2
 v2:=zeroValue2
 t3:=underlying3
 a3:=isAgg3
 z3:=sizeOf3
 v3:=zeroValue3
 t4:=underlying4
 a4:=isAgg4
 z4:=sizeOf4
 v4:=zeroValue4
 t5:=underlying5
 a5:=isAgg5
 z5:=sizeOf5
 v5:=zeroValue5
 t9:=underlying9
 a9:=isAgg9
 z9:=sizeOf9
 v9:=zeroValue9
 t20:=underlying20
 a20:=isAgg20
 z20:=sizeOf20
 v20:=zeroValue20
 t37:=underlying22
 a37:=isAgg22
 z37:=sizeOf22
 v37:=zeroValue22
 t46:=underlying143
 a46:=isAgg143
 z46:=sizeOf143
 v46:=zeroValue143
 t51:=underlying185
 a51:=isAgg185
 z51:=sizeOf185
 v51:=zeroValue185
 t53:=underlying187
 a53:=isAgg187
 z53:=sizeOf187
 v53:=zeroValue187
 t171:=underlying197
 a171:=isAgg197
 z171:=sizeOf197
 v171:=zeroValue197
 t173:=underlying199
 a173:=isAgg199
 z173:=sizeOf199
 v173:=zeroValue199
 t212:=underlying227
 a212:=isAgg227
 z212:=sizeOf227
 v212:=zeroValue227
 t213:=underlying228
 a213:=isAgg228
 z213:=sizeOf228
 t232:=underlying266
 a232:=isAgg266
 z232:=sizeOf266
 v232:=zeroValue266
 t233:=underlying267
 a233:=isAgg267
 z233:=sizeOf267
 v233:=zeroValue267
 g17:=by kernel_rfl
 g18:=by kernel_rfl
 g19:=by kernel_rfl
 i0:=by kernel_rfl
 i2:=by kernel_rfl
 i3:=by kernel_rfl
 i4:=by kernel_rfl
 i5:=by kernel_rfl
 i9:=by kernel_rfl
 i20:=by kernel_rfl
 i37:=by kernel_rfl
 i46:=by kernel_rfl
 i51:=by kernel_rfl
 i53:=by kernel_rfl
 i171:=by kernel_rfl
 i173:=by kernel_rfl
 i212:=by kernel_rfl
 i232:=by kernel_rfl
 i233:=by kernel_rfl
 m17:=by kernel_rfl
 m18:=by kernel_rfl
 m19:=by kernel_rfl }
def Im:List AV→Option (List (List Nat))
 | []=>some []
 | .str x::l=>(Im l).bind fun r=>some (x::r)
 | _=>none
theorem Ox:∀ {l:List AV}{r:List (List Nat)},Im l=some r→∀v∈l,∃x,v=.str x
 | [],_,_,v,hv=>by cases hv
 | a::l,r,h,v,hv=>by
  unfold Im at h
  split at h<;>first | (cases h;done) | skip
  ·rename_i hq;cases hq
  ·rename_i x l2 hq
   injection hq with q1 q2
   subst q1;subst q2
   simp only[A8G]at h
   obtain⟨r',h1,_⟩:=h
   rcases A8I.1 hv with rfl | hv
   ·exact⟨_,rfl⟩
   ·exact Ox h1 v hv
def El(sep:List Nat)(r:List (List Nat)):List Nat:=(r.map (sep++·)).flatten
def Fa(xs:List (List Nat))(sep:List Nat):List Nat:=match xs with
 | []=>[]
 | x::r=>x++El sep r
def JI{β α:Type}:List β→(List β→Option α)→Option α
 | [],k=>k []
 | x::l,k=>JI l fun r=>k (x::r)
theorem Ez{β α:Type}:∀ (l:List β)(k:List β→Option α),JI l k=k l
 | [],_=>rfl
 | x::l,k=>Ez l _
def LA(s:CO):List AV→Option (AV×CO)
 | [.slice (some (i,o)) n c,.str sep]=>(Di s i o n).bind fun cs=>(Im cs).bind fun xs=>JI (Fa xs sep) fun t=>CU (Nat.ble t.length 1000000000000 && Nat.ble n 1000000) (some (.str t,s))
 | _=>none
theorem TM{a b:ByteArray}(h:(a.data.toList.map fun(c:UInt8)=>c.toNat)=b.data.toList.map fun(c:UInt8)=>c.toNat):a=b:=by
  have key:∀ {l m:List UInt8},(l.map fun(c:UInt8)=>c.toNat)=m.map (fun(c:UInt8)=>c.toNat)→l=m:=by
    intro l
    induction l with
    | nil=>intro m h;cases m with | nil=>rfl | cons=>cases h
    | cons x l ih =>
      intro m h
      cases m with
      | nil=>cases h
      | cons y m =>
        rw[A8U,A8U]at h
        injection h with h1 h2
        rw[ih h2,UInt8.toNat_inj.1 h1]
  have:=key h
  exact ByteArray.ext (Array.toList_inj.1 this)
theorem Cb.backAt{ρ:DV}:∀ {l:List AV}{l':List Value},Cb ρ l l'→∀ {k:Nat}{v':Value},l'[k]? = some v'→∃u,l[k]? = some u∧Cc ρ u v'
 | _,_,.nil,k,v',h=>by simp at h
 | _,_,.cons hv hs,0,v',h=>by simp at h;subst h;exact⟨_,rfl,hv⟩
 | _,_,.cons hv hs,k+1,v',h=>by simpa using hs.backAt (by simpa using h)
theorem Lo{ρ:DV}:∀ {l:List AV}{xs:List (List Nat)}{l':List Value},Im l=some xs→Cb ρ l l'→∃bs:List ByteArray,l'=bs.map Value.string∧xs=bs.map fun b=>b.data.toList.map fun(c:UInt8)=>c.toNat
  | [],xs,l',h,hr=>by cases hr;injection h with h;exact⟨[],rfl,h.symm⟩
  | v::l,xs,l',h,hr=>by
    cases hr with
    | cons hv hs =>
      cases v<;>try (simp[Im]at h;done)
      rename_i x
      simp only[Im,A8G]at h
      obtain⟨r,h1,h2⟩:=h
      injection h2 with h2
      subst h2
      obtain⟨bs,rfl,rfl⟩:=Lo h1 hs
      cases hv with
      | str e=>rename_i b;exact⟨b::bs,rfl,by rw[A8U,e]⟩
theorem Su(sep:List UInt8)(r:List (List UInt8)):El (sep.map fun(c:UInt8)=>c.toNat) (r.map fun b=>b.map fun(c:UInt8)=>c.toNat)=(Go.Lib.joinTail sep r).map fun(c:UInt8)=>c.toNat:=by
 induction r with
 | nil=>rfl
 | cons x r ih =>
  have h1:El (sep.map fun(c:UInt8)=>c.toNat) ((x::r).map fun b=>b.map fun(c:UInt8)=>c.toNat)=(sep.map fun(c:UInt8)=>c.toNat)++x.map (fun(c:UInt8)=>c.toNat)++El (sep.map fun(c:UInt8)=>c.toNat) (r.map fun b=>b.map fun(c:UInt8)=>c.toNat):=by simp[El]
  have h2:Go.Lib.joinTail sep (x::r)=sep++x++Go.Lib.joinTail sep r:=by simp[Go.Lib.joinTail]
  rw[h1,h2,ih];simp
theorem fV(bs:List ByteArray)(sep:ByteArray):Fa (bs.map fun b=>b.data.toList.map fun(c:UInt8)=>c.toNat) (sep.data.toList.map fun(c:UInt8)=>c.toNat)=(Go.Lib.join (bs.map (·.data.toList)) sep.data.toList).map fun(c:UInt8)=>c.toNat:=by
 cases bs with
 | nil=>rfl
 | cons b bs =>
  rw[A8U,A8U,Go.Lib.join_cons,A8r]
  show _++El _ _=_
  have:=Su sep.data.toList (bs.map (·.data.toList))
  rw[List.map_map]at this
  rw[← this];rfl
section
variable{ρ:DV}{s s1:CO}{w:World}
theorem Ts(h:DU prog ρ s w){ys:List AV}{as':Array Value}{v:AV}(hs:LA s ys=some (v,s1))(has:Cb ρ ys as'.toList):CallsIn Fence.wide 0 prog 86 as' w (Ey prog ρ s w v s1):=by
  refine callsIn_wide.2 ?_
  unfold LA at hs
  split at hs<;>first | (cases hs;done) | skip
  rename_i i o n c sep
  simp only[A8G]at hs
  obtain⟨cs,hl,xs,hx,hs⟩:=hs
  rw[Ez]at hs
  obtain⟨hg,hs⟩:=CM hs
  simp only[A9W,A8Q]at hg
  injection hs with hs
  injection hs with q1 q2
  subst q1;subst q2
  obtain⟨l0⟩:=as'
  cases has with
  | cons h1 h2 =>
  cases h2 with
  | cons h2 h3 =>
  cases h3
  cases h2 with
  | str hsep =>
  rename_i sb
  have main:∀ {rb:RB} {cap:Nat},ρ i=some rb→n≤cap→Calls prog 86 #[.slice (some ⟨rb.b,rb.off+o,none⟩) n cap,.string sb] w (Ey prog ρ s w (.str (Fa xs sep)) s):=by
    intro rb cap hr hcap
    obtain⟨l',hv,hl2,_⟩:=FR h hr hl
    have hcell:∀k u,cs[k]? = some u→∃v',Cc ρ u v'∧w.cell? ⟨rb.b,rb.off+(o+k),none⟩=some v':=fun k u hk=>by
      obtain⟨r,hrow⟩:∃r,rowAt s i=some r:=by
        unfold Di at hl
        cases hrw:rowAt s i with
        | none=>rw[hrw]at hl;cases hl
        | some r=>exact⟨r,rfl⟩
      obtain⟨g1,g2⟩:=HP hrow hl
      have hkn:k<n:=by
        have:=CT.take_length g2
        rcases A8N k n with h' | h'
        · exact h'
        · rw[A8W (by omega)]at hk;cases hk
      have g3:=CT.take_get g2 k hkn
      have:FQ s i (o+k)=some u:=by
        unfold FQ
        rw[hrow,Option.bind_some,g3,hk]
        have:Nat.blt (o+k) r.n=true:=by rw[A8Y];omega
        rw[this];rfl
      exact Hj h hr this
    obtain⟨bs,rfl,rfl⟩:=Lo hx hv
    subst hsep
    rw[fV]at hg ⊢
    rw[A8c]at hg
    have hlen:bs.length=n:=by rw[A8c]at hl2;exact hl2
    subst hlen
    have hcj:∀ (j:Nat) x,bs[j]? = some x→w.cell? ⟨rb.b,rb.off+o+j,none⟩=some (.string x):=fun j x hj=>by
      obtain⟨u,hu,hux⟩:∃u,cs[j]? = some u∧Cc ρ u (.string x):=by
        obtain⟨u,hu1,hu2⟩:=hv.backAt (k:=j) (v':=.string x) (by rw[A8j,hj];rfl)
        exact⟨u,hu1,hu2⟩
      obtain⟨v',k1,k2⟩:=hcell j u hu
      obtain⟨su,rfl⟩:=Ox hx u (A8a hu)
      cases hux with
      | str e1 =>
        cases k1 with
        | str e2 =>
          rename_i b'
          have:b'=x:=TM (e2.trans e1.symm)
          rw[show rb.off+o+j=rb.off+(o+j)from by omega,k2,this]
    have:=Any.strings_Join dV R4 rb.b (rb.off+o) cap bs sb w hcj (h.lt i rb hr) (by omega) hcap (by omega)
    refine Calls.mono this ?_
    rintro e w' ⟨rfl,hb⟩
    obtain⟨g1,g2⟩:=h.grown (w1:=w') ⟨hb.os,hb.tape,hb.output,hb.size,fun k hk _=>hb.block k hk⟩
    exact⟨ρ,.str rfl,g1,g2⟩
  cases h1 with
  | slice hr hle=>exact main hr hle
  | sliceOpen hr h0 hle hN1 hN2=>exact main hr hle
  | sliceEnd hr h0 hN1 hN2 =>
    rename_i rb a
    obtain⟨l',hv,hl2,_⟩:=FR h hr hl
    obtain⟨bs,rfl,rfl⟩:=Lo hx hv
    have hb0:bs=[]:=A9O (by rw[A8c]at hl2;exact hl2)
    subst hb0
    refine Calls.mono (Any.strings_Join_none dV R4 _ _ sb w) ?_
    rintro e w' ⟨rfl,rfl⟩
    exact⟨ρ,.str rfl,h,Fr.refl _ _ _⟩
end
end
end Go.Proofs.YtoaaclpjkelofaaGreatDoor.Am
namespace Go.Proofs.YtoaaclpjkelofaaGreatDoor.Am
open Go Go.Proofs Go.Shelf
noncomputable section
open Tryz
def KB:Go.Shelf.Ren:=⟨fun | 7=>195 | 10=>217 | n=>n,fun | 23=>169 | 26=>3 | 3=>81 | 28=>66 | 0=>0 | 27=>65 | 33=>128 | 4=>4 | n=>n,fun | n=>n⟩
theorem Xc:Go.Proofs.SlLaysZI.n7 prog KB:={
 mixed:=by kernel_rfl
 f7:=⟨Tryz.f195.name,by decide,func195.trans (congrArg some (by kernel_rfl))⟩
 f10:=⟨Tryz.f217.name,by decide,func217.trans (congrArg some (by kernel_rfl))⟩
 t0:=underlying0
 a0:=isAgg0
 z0:=sizeOf0
 v0:=zeroValue0
 t4:=underlying4
 a4:=isAgg4
 z4:=sizeOf4
 v4:=zeroValue4
 t23:=underlying169
 a23:=isAgg169
 z23:=sizeOf169
 v23:=zeroValue169
 t26:=underlying3
 a26:=isAgg3
 z26:=sizeOf3
 v26:=zeroValue3
 t27:=underlying65
 a27:=isAgg65
 z27:=sizeOf65
 v27:=zeroValue65
 t28:=underlying66
 a28:=isAgg66
 z28:=sizeOf66
 v28:=zeroValue66
 t33:=underlying128
 a33:=isAgg128
 z33:=sizeOf128
 v33:=zeroValue128 }
def KC:Go.Shelf.Ren:=⟨fun | 7=>33 | 10=>74 | n=>n,fun | 23=>57 | 26=>3 | 3=>63 | 28=>66 | 0=>0 | 27=>65 | 33=>128 | 4=>4 | n=>n,fun | n=>n⟩
theorem Xd:Go.Proofs.SlLaysZI.n7 prog KC:={
 mixed:=by kernel_rfl
 f7:=⟨Tryz.f33.name,by decide,func33.trans (congrArg some (by kernel_rfl))⟩
 f10:=⟨Tryz.f74.name,by decide,func74.trans (congrArg some (by kernel_rfl))⟩
 t0:=underlying0
 a0:=isAgg0
 z0:=sizeOf0
 v0:=zeroValue0
 t4:=underlying4
 a4:=isAgg4
 z4:=sizeOf4
 v4:=zeroValue4
 t23:=underlying57
 a23:=isAgg57
 z23:=sizeOf57
 v23:=zeroValue57
 t26:=underlying3
 a26:=isAgg3
 z26:=sizeOf3
 v26:=zeroValue3
 t27:=underlying65
 a27:=isAgg65
 z27:=sizeOf65
 v27:=zeroValue65
 t28:=underlying66
 a28:=isAgg66
 z28:=sizeOf66
 v28:=zeroValue66
 t33:=underlying128
 a33:=isAgg128
 z33:=sizeOf128
 v33:=zeroValue128 }
def LE:Go.Shelf.Ren:=⟨fun | 6=>32 | 8=>72 | 9=>73 | 11=>112 | 13=>114 | 12=>113 | 23=>142 | 24=>143 | 14=>133 | 15=>134 | 16=>135 | 17=>136 | 18=>137 | 19=>138 | 20=>139 | 21=>140 | 22=>141 | 25=>169 | 26=>170 | 27=>171 | 28=>172 | 29=>173 | 30=>116 | 31=>197 | n=>n,fun | 26=>3 | 28=>66 | 24=>30 | 0=>0 | 3=>3 | 37=>143 | 48=>185 | 50=>187 | 4=>4 | 40=>178 | 39=>177 | 45=>96 | 5=>5 | 9=>9 | 51=>211 | 55=>215 | 57=>238 | 58=>239 | 33=>128 | n=>n,fun | n=>n⟩
theorem KD:Go.Proofs.SlLaysZI.n6 prog LE:={
 mixed:=by kernel_rfl
 f6:=⟨Tryz.f32.name,by decide,func32.trans (congrArg some (by kernel_rfl))⟩
 f8:=⟨Tryz.f72.name,by decide,func72.trans (congrArg some (by kernel_rfl))⟩
 f11:=⟨Tryz.f112.name,by decide,func112.trans (congrArg some (by kernel_rfl))⟩
 t0:=underlying0
 a0:=isAgg0
 z0:=sizeOf0
 v0:=zeroValue0
 t24:=underlying30
 a24:=isAgg30
 z24:=sizeOf30
 v24:=zeroValue30
 t26:=underlying3
 a26:=isAgg3
 z26:=sizeOf3
 v26:=zeroValue3
 t28:=underlying66
 a28:=isAgg66
 z28:=sizeOf66
 v28:=zeroValue66
 i26:=by kernel_rfl }
def Vi:Go.Shelf.Ren:=⟨fun | 5=>73 | 8=>114 | 7=>113 | 19=>142 | 20=>143 | 10=>133 | 11=>134 | 12=>135 | 13=>136 | 14=>137 | 15=>138 | 16=>139 | 17=>140 | 18=>141 | 30=>169 | 31=>170 | 32=>171 | 33=>172 | 34=>173 | 35=>116 | 40=>197 | n=>n,fun | 23=>30 | 25=>3 | 3=>3 | 32=>143 | 22=>30 | 0=>0 | 44=>185 | 46=>187 | 4=>4 | 36=>178 | 35=>177 | 41=>96 | 5=>5 | 9=>9 | 53=>211 | 57=>215 | 63=>238 | 64=>239 | n=>n,fun | n=>n⟩
theorem NV:Go.Proofs.SlLaysM.n5 prog Vi:={
 mixed:=by kernel_rfl
 f5:=⟨Tryz.f73.name,by decide,func73.trans (congrArg some (by kernel_rfl))⟩
 f7:=⟨Tryz.f113.name,by decide,func113.trans (congrArg some (by kernel_rfl))⟩
 f8:=func114.trans (congrArg some (by kernel_rfl))
 f10:=⟨Tryz.f133.name,by decide,func133.trans (congrArg some (by kernel_rfl))⟩
 f11:=⟨Tryz.f134.name,by decide,func134.trans (congrArg some (by kernel_rfl))⟩
 f12:=⟨Tryz.f135.name,by decide,func135.trans (congrArg some (by kernel_rfl))⟩
 f13:=⟨Tryz.f136.name,by decide,func136.trans (congrArg some (by kernel_rfl))⟩
 f14:=⟨Tryz.f137.name,by decide,func137.trans (congrArg some (by kernel_rfl))⟩
 f15:=⟨Tryz.f138.name,by decide,func138.trans (congrArg some (by kernel_rfl))⟩
 f16:=⟨Tryz.f139.name,by decide,func139.trans (congrArg some (by kernel_rfl))⟩
 f17:=⟨Tryz.f140.name,by decide,func140.trans (congrArg some (by kernel_rfl))⟩
 f18:=⟨Tryz.f141.name,by decide,func141.trans (congrArg some (by kernel_rfl))⟩
 f19:=func142.trans (congrArg some (by kernel_rfl))
 f20:=func143.trans (congrArg some (by kernel_rfl))
 f30:=⟨Tryz.f169.name,by decide,func169.trans (congrArg some (by kernel_rfl))⟩
 f31:=func170.trans (congrArg some (by kernel_rfl))
 f32:=func171.trans (congrArg some (by kernel_rfl))
 f33:=⟨Tryz.f172.name,by decide,func172.trans (congrArg some (by kernel_rfl))⟩
 f34:=⟨Tryz.f173.name,by decide,func173.trans (congrArg some (by kernel_rfl))⟩
 f35:=⟨Tryz.f116.name,by decide,func116.trans (congrArg some (by kernel_rfl))⟩
 f40:=⟨Tryz.f197.name,by decide,func197.trans (congrArg some (by kernel_rfl))⟩
 t0:=underlying0
 a0:=isAgg0
 z0:=sizeOf0
 v0:=zeroValue0
 t3:=underlying3
 a3:=isAgg3
 z3:=sizeOf3
 v3:=zeroValue3
 t4:=underlying4
 a4:=isAgg4
 z4:=sizeOf4
 v4:=zeroValue4
 t5:=underlying5
 a5:=isAgg5
 z5:=sizeOf5
 v5:=zeroValue5
 t9:=underlying9
 a9:=isAgg9
 z9:=sizeOf9
 v9:=zeroValue9
 t22:=underlying30
 a22:=isAgg30
 z22:=sizeOf30
 v22:=zeroValue30
 t23:=underlying30
 a23:=isAgg30
 z23:=sizeOf30
 v23:=zeroValue30
 t25:=underlying3
 a25:=isAgg3
 z25:=sizeOf3
 v25:=zeroValue3
 t32:=underlying143
 a32:=isAgg143
 z32:=sizeOf143
 v32:=zeroValue143
 t35:=underlying177
 a35:=isAgg177
 z35:=sizeOf177
 v35:=zeroValue177
 t36:=underlying178
 a36:=isAgg178
 z36:=sizeOf178
 v36:=zeroValue178
 t41:=underlying96
 a41:=isAgg96
 z41:=sizeOf96
 v41:=zeroValue96
 t44:=underlying185
 a44:=isAgg185
 z44:=sizeOf185
 v44:=zeroValue185
 t46:=underlying187
 a46:=isAgg187
 z46:=sizeOf187
 v46:=zeroValue187
 t53:=underlying211
 a53:=isAgg211
 z53:=sizeOf211
 v53:=zeroValue211
 t57:=underlying215
 a57:=isAgg215
 z57:=sizeOf215
 v57:=zeroValue215
 t63:=underlying238
 a63:=isAgg238
 z63:=sizeOf238
 v63:=zeroValue238
 t64:=underlying239
 a64:=isAgg239
 z64:=sizeOf239
 v64:=zeroValue239 }
def Vj:Go.Shelf.Ren:=⟨fun | 6=>85 | 8=>114 | 9=>119 | 19=>142 | 20=>143 | 21=>145 | 22=>146 | 23=>147 | 24=>148 | 25=>149 | 26=>150 | 27=>151 | 28=>152 | 29=>153 | 36=>174 | 31=>170 | 32=>171 | 37=>175 | 38=>176 | 39=>177 | 41=>198 | n=>n,fun | 27=>28 | 29=>9 | 3=>3 | 32=>143 | 26=>28 | 0=>0 | 44=>185 | 46=>187 | 4=>4 | 36=>178 | 35=>177 | 41=>96 | 5=>5 | 9=>9 | 53=>211 | 57=>215 | 63=>238 | 64=>239 | n=>n,fun | n=>n⟩
theorem Xe:Go.Proofs.SlLaysM.n6 prog Vj:={
 mixed:=by kernel_rfl
 f6:=⟨Tryz.f85.name,by decide,func85.trans (congrArg some (by kernel_rfl))⟩
 f8:=func114.trans (congrArg some (by kernel_rfl))
 f9:=⟨Tryz.f119.name,by decide,func119.trans (congrArg some (by kernel_rfl))⟩
 f19:=func142.trans (congrArg some (by kernel_rfl))
 f20:=func143.trans (congrArg some (by kernel_rfl))
 f21:=⟨Tryz.f145.name,by decide,func145.trans (congrArg some (by kernel_rfl))⟩
 f22:=⟨Tryz.f146.name,by decide,func146.trans (congrArg some (by kernel_rfl))⟩
 f23:=⟨Tryz.f147.name,by decide,func147.trans (congrArg some (by kernel_rfl))⟩
 f24:=⟨Tryz.f148.name,by decide,func148.trans (congrArg some (by kernel_rfl))⟩
 f25:=⟨Tryz.f149.name,by decide,func149.trans (congrArg some (by kernel_rfl))⟩
 f26:=⟨Tryz.f150.name,by decide,func150.trans (congrArg some (by kernel_rfl))⟩
 f27:=⟨Tryz.f151.name,by decide,func151.trans (congrArg some (by kernel_rfl))⟩
 f28:=⟨Tryz.f152.name,by decide,func152.trans (congrArg some (by kernel_rfl))⟩
 f29:=⟨Tryz.f153.name,by decide,func153.trans (congrArg some (by kernel_rfl))⟩
 f31:=func170.trans (congrArg some (by kernel_rfl))
 f32:=func171.trans (congrArg some (by kernel_rfl))
 f36:=⟨Tryz.f174.name,by decide,func174.trans (congrArg some (by kernel_rfl))⟩
 f37:=⟨Tryz.f175.name,by decide,func175.trans (congrArg some (by kernel_rfl))⟩
 f38:=⟨Tryz.f176.name,by decide,func176.trans (congrArg some (by kernel_rfl))⟩
 f39:=⟨Tryz.f177.name,by decide,func177.trans (congrArg some (by kernel_rfl))⟩
 f41:=⟨Tryz.f198.name,by decide,func198.trans (congrArg some (by kernel_rfl))⟩
 t0:=underlying0
 a0:=isAgg0
 z0:=sizeOf0
 v0:=zeroValue0
 t3:=underlying3
 a3:=isAgg3
 z3:=sizeOf3
 v3:=zeroValue3
 t4:=underlying4
 a4:=isAgg4
 z4:=sizeOf4
 v4:=zeroValue4
 t5:=underlying5
 a5:=isAgg5
 z5:=sizeOf5
 v5:=zeroValue5
 t9:=underlying9
 a9:=isAgg9
 z9:=sizeOf9
 v9:=zeroValue9
 t26:=underlying28
 a26:=isAgg28
 z26:=sizeOf28
 v26:=zeroValue28
 t27:=underlying28
 a27:=isAgg28
 z27:=sizeOf28
 v27:=zeroValue28
 t29:=underlying9
 a29:=isAgg9
 z29:=sizeOf9
 v29:=zeroValue9
 t32:=underlying143
 a32:=isAgg143
 z32:=sizeOf143
 v32:=zeroValue143
 t35:=underlying177
 a35:=isAgg177
 z35:=sizeOf177
 v35:=zeroValue177
 t36:=underlying178
 a36:=isAgg178
 z36:=sizeOf178
 v36:=zeroValue178
 t41:=underlying96
 a41:=isAgg96
 z41:=sizeOf96
 v41:=zeroValue96
 t44:=underlying185
 a44:=isAgg185
 z44:=sizeOf185
 v44:=zeroValue185
 t46:=underlying187
 a46:=isAgg187
 z46:=sizeOf187
 v46:=zeroValue187
 t53:=underlying211
 a53:=isAgg211
 z53:=sizeOf211
 v53:=zeroValue211
 t57:=underlying215
 a57:=isAgg215
 z57:=sizeOf215
 v57:=zeroValue215
 t63:=underlying238
 a63:=isAgg238
 z63:=sizeOf238
 v63:=zeroValue238
 t64:=underlying239
 a64:=isAgg239
 z64:=sizeOf239
 v64:=zeroValue239 }
def KA:Go.Shelf.Ren:=⟨fun | 5=>53 | n=>n,fun | 23=>69 | 24=>69 | 26=>3 | 27=>3 | 0=>0 | 4=>4 | n=>n,fun | n=>n⟩
theorem Xb:Go.Proofs.SlLaysX.n5 prog KA:={
 mixed:=by kernel_rfl
 f5:=⟨Tryz.f53.name,by decide,func53.trans (congrArg some (by kernel_rfl))⟩
 t0:=underlying0
 a0:=isAgg0
 z0:=sizeOf0
 v0:=zeroValue0
 t4:=underlying4
 a4:=isAgg4
 z4:=sizeOf4
 v4:=zeroValue4
 t23:=underlying69
 a23:=isAgg69
 z23:=sizeOf69
 v23:=zeroValue69
 t24:=underlying69
 a24:=isAgg69
 z24:=sizeOf69
 v24:=zeroValue69
 a26:=isAgg3
 z26:=sizeOf3
 a27:=isAgg3
 z27:=sizeOf3 }
end
end Go.Proofs.YtoaaclpjkelofaaGreatDoor.Am
set_option linter.all false
namespace Go.Proofs.YtoaaclpjkelofaaGreatDoor.Am
open Go
noncomputable section
open Tryz
section
variable{α:Type}
theorem CT.setF_succ(v:Option α)(f:Nat)(t:CT α)(k:Nat):CT.setF v (f+1) t (k+1)=if k % 2=0 then .node t.val (CT.setF v f t.left (k / 2)) t.right else .node t.val t.left (CT.setF v f t.right (k / 2)):=by
 by_cases h:k % 2=0
 ·have hb:Nat.beq (k % 2) 0=true:=by rw[h];rfl
  simp only[CT.setF_step,hb,cond_true,CT.nodeL_eq,CT.nodeR_eq]
  rw[if_pos h]
 ·have hb:Nat.beq (k % 2) 0=false:=CT.beq_no h
  simp only[CT.setF_step,hb,cond_false,CT.nodeL_eq,CT.nodeR_eq]
  rw[if_neg h]
theorem CT.setF_fuel(v:Option α):∀ (f g:Nat)(t:CT α)(k:Nat),k<f→k<g→CT.setF v f t k=CT.setF v g t k:=by
  intro f
  induction f with
  | zero=>intro g t k h;omega
  | succ f ih =>
    intro g t k h1 h2
    cases g with
    | zero=>omega
    | succ g =>
      cases k with
      | zero=>rfl
      | succ k =>
        rw[CT.setF_succ,CT.setF_succ,ih g t.left (k / 2) (by omega) (by omega),ih g t.right (k / 2) (by omega) (by omega)]
theorem CT.setF_same(v w:Option α):∀ (f:Nat)(t:CT α)(k:Nat),k<f→CT.setF w f (CT.setF v f t k) k=CT.setF w f t k:=by
 intro f
 induction f with
 | zero=>intro t k h;omega
 | succ f ih =>
  intro t k h
  cases k with
  | zero=>simp only[CT.setF_at,CT.left,CT.right]
  | succ k =>
   rw[CT.setF_succ,CT.setF_succ,CT.setF_succ]
   by_cases hk:k % 2=0
   ·simp only[hk,if_true,CT.val,CT.left,CT.right];rw[ih _ _ (by omega)]
   ·simp only[hk,if_false,CT.val,CT.left,CT.right];rw[ih _ _ (by omega)]
theorem CT.setF_comm(v w:Option α):∀ (f:Nat)(t:CT α)(k j:Nat),k<f→j<f→k≠j→CT.setF w f (CT.setF v f t k) j=CT.setF v f (CT.setF w f t j) k:=by
  intro f
  induction f with
  | zero=>intro t k j h;omega
  | succ f ih =>
    intro t k j h1 h2 hne
    cases k with
    | zero =>
      cases j with
      | zero=>omega
      | succ j =>
        rw[CT.setF_succ,CT.setF_succ]
        by_cases hj:j % 2=0
        · simp only[hj,if_true,CT.setF_at,CT.val,CT.left,CT.right]
        · simp only[hj,if_false,CT.setF_at,CT.val,CT.left,CT.right]
    | succ k =>
      cases j with
      | zero =>
        rw[CT.setF_succ,CT.setF_succ]
        by_cases hk:k % 2=0
        · simp only[hk,if_true,CT.setF_at,CT.val,CT.left,CT.right]
        · simp only[hk,if_false,CT.setF_at,CT.val,CT.left,CT.right]
      | succ j =>
        simp only[CT.setF_succ]
        by_cases hk:k % 2=0<;>by_cases hj:j % 2=0
        · simp only[hk,hj,if_true,CT.val,CT.left,CT.right];rw[ih _ _ _ (by omega) (by omega) (by omega)]
        · simp only[hk,hj,if_true,if_false,CT.val,CT.left,CT.right]
        · simp only[hk,hj,if_true,if_false,CT.val,CT.left,CT.right]
        · simp only[hk,hj,if_false,CT.val,CT.left,CT.right];rw[ih _ _ _ (by omega) (by omega) (by omega)]
theorem CT.set_same(t:CT α)(k:Nat)(v w:α):(t.set k v).set k w=t.set k w:=CT.setF_same (some v) (some w) (k+1) t k (by omega)
theorem CT.set_comm(t:CT α){k j:Nat}(h:k≠j)(v w:α):(t.set k v).set j w=(t.set j w).set k v:=by
 unfold CT.set CT.put
 rw[CT.setF_fuel _ (k+1) (k+j+1) t k (by omega) (by omega),CT.setF_fuel _ (j+1) (k+j+1) _ j (by omega) (by omega),CT.setF_fuel _ (j+1) (k+j+1) t j (by omega) (by omega),CT.setF_fuel _ (k+1) (k+j+1) _ k (by omega) (by omega)]
 exact CT.setF_comm _ _ _ _ _ _ (by omega) (by omega) h
theorem CT.fill_append(l m:List α):∀ (t:CT α)(k:Nat),t.fill k (l++m)=(t.fill k l).fill (k+l.length) m:=by
 induction l with
 | nil=>intro t k;rfl
 | cons a l ih=>intro t k;simp only[A8e,CT.fill_cons,ih,A8P];rw[show k+1+l.length=k+(l.length+1)from by omega]
theorem CT.fill_set_below(l:List α):∀ (t:CT α)(k j:Nat)(v:α),j<k→(t.fill k l).set j v=(t.set j v).fill k l:=by
 induction l with
 | nil=>intro t k j v _;rfl
 | cons a l ih =>
  intro t k j v h
  simp only[CT.fill_cons]
  rw[ih _ _ _ _ (by omega),CT.set_comm t (by omega)]
theorem CT.fill_set(l:List α):∀ (t:CT α)(k i:Nat)(v:α),i<l.length→(t.fill k l).set (k+i) v=t.fill k (l.set i v):=by
  induction l with
  | nil=>intro t k i v h;simp at h
  | cons a l ih =>
    intro t k i v h
    cases i with
    | zero =>
      simp only[CT.fill_cons,A8f,List.set_cons_zero]
      rw[CT.fill_set_below _ _ _ _ _ (by omega),CT.set_same]
    | succ i =>
      simp only[CT.fill_cons,List.set_cons_succ]
      rw[show k+(i+1)=k+1+i from by omega]
      exact ih _ _ _ _ (by simpa using h)
end
def Vw(l:List AV):CT AV:=CT.fill .leaf 0 l
theorem Vx(l:List AV)(k:Nat):(Vw l).get k=l[k]? := by
 unfold Vw
 rw[CT.get_fill]
 by_cases h:k<l.length
 ·rw[if_pos ⟨A8T _,by omega⟩];rfl
 ·rw[if_neg (by omega),A8W (by omega)];rfl
def KR(cs:List AV)(off:Nat)(vs:List AV):List AV:=match vs with
 | []=>cs
 | v::vs=>KR (cs.set off v) (off+1) vs
theorem MO:∀ (vs cs:List AV)(off:Nat),(KR cs off vs).length=cs.length
 | [],_,_=>rfl
 | v::vs,cs,off=>by unfold KR;rw[MO];simp
theorem Xy:∀ (vs cs:List AV)(off:Nat),off+vs.length≤cs.length→(Vw cs).fill off vs=Vw (KR cs off vs)
 | [],_,_,_=>rfl
 | v::vs,cs,off,h=>by
  simp only[CT.fill_cons,KR]
  have e:(Vw cs).set off v=Vw (cs.set off v):=by
   unfold Vw
   have:=CT.fill_set cs .leaf 0 off v (by simp at h;omega)
   rwa[A8V]at this
  rw[e]
  exact Xy vs _ _ (by simp at h ⊢;omega)
def R(e sz:Nat)(sp:Bool)(cs:List AV):Cg:=.row { elem:=e,sz,n:=cs.length,c:=Vw cs,spare:=sp,mode:=.own,par:=none,bytes:=true }
@[irreducible] def nid (b k:Nat):Nat:=b+k
theorem CN(b k:Nat):nid b k=b+k:=by unfold nid;rfl
theorem LH(b:Nat):nid b 0=b:=by rw[CN];rfl
def ext(s:CO)(os:List Cg):CO:={ next:=nid s.next os.length,heap:=s.heap.fill s.next os }
theorem Ca(s:CO):ext s []=s:=by
 unfold ext
 rw[A8b,LH];rfl
theorem Ce(s:CO)(os:List Cg):(ext s os).next=nid s.next os.length:=rfl
theorem Cp(s:CO)(i:Nat)(o:Cg):(setObj s i o).next=s.next:=rfl
theorem H7(s:CO)(os:List Cg)(o:Cg):newObj (ext s os) o=ext s (os++[o]):=by
 unfold newObj ext
 simp only[CN,A8X,A8P,A8b,CT.fill_append,CT.fill_cons,CT.fill_nil]
 congr 1
theorem Pg{s:CO}{os:List Cg}{b k:Nat}(o:Cg)(hb:s.next=b)(hk:k<os.length):setObj (ext s os) (nid b k) o=ext s (os.set k o):=by
 subst hb
 unfold setObj ext
 simp only[CN,A9M]
 rw[CT.fill_set _ _ _ _ _ hk]
theorem YS{s:CO}{os:List Cg}{i:Nat}(o:Cg)(hi:i<s.next):setObj (ext s os) i o=ext (setObj s i o) os:=by
 unfold setObj ext
 simp only
 rw[CT.fill_set_below _ _ _ _ _ hi]
theorem CR{s:CO}{os:List Cg}{b k:Nat}(hb:s.next=b)(hk:k<os.length):(ext s os).heap.get (nid b k)=os[k]? := by
 subst hb
 show(s.heap.fill s.next os).get _=_
 rw[CT.get_fill,CN,if_pos (by omega)]
 congr 1
 omega
theorem Cm{s:CO}{os:List Cg}{i:Nat}(hi:i<s.next):(ext s os).heap.get i=s.heap.get i:=by
 show(s.heap.fill s.next os).get _=_
 rw[CT.get_fill,if_neg (by omega)]
theorem Co(s:CO)(i:Nat)(o:Cg):(setObj s i o).heap.get i=some o:=by
 show(s.heap.set i o).get i=_
 rw[CT.get_set,if_pos rfl]
theorem CS{s:CO}{i j:Nat}(o:Cg)(h:j≠i):(setObj s i o).heap.get j=s.heap.get j:=by
 show(s.heap.set i o).get j=_
 rw[CT.get_set,if_neg h]
def th:Option Cg→Option FP
 | some (.row r)=>some r
 | _=>none
def DY(o:Option Cg)(off:Nat):Option AV:=(th o).bind fun r=>CU (Nat.blt off r.n) (r.c.get off)
def EV(o:Option Cg)(off n:Nat):Option (List AV):=(th o).bind fun r=>CU (Nat.ble (off+n) r.n) (r.c.take off n)
def mapO(kt:TypeId):Option Cg→Option (List (AV×AV))
 | some (.map kt' es)=>CU (Nat.beq kt' kt) (some es)
 | _=>none
theorem Hc(s:CO)(i:Nat):rowAt s i=th (s.heap.get i):=rfl
theorem Lb(s:CO)(i off:Nat):FQ s i off=DY (s.heap.get i) off:=rfl
theorem Et(s:CO)(i off n:Nat):Di s i off n=EV (s.heap.get i) off n:=rfl
theorem I4(s:CO)(kt i:Nat):Jf s kt i=mapO kt (s.heap.get i):=rfl
theorem Lc(e sz:Nat)(sp:Bool)(cs:List AV)(off:Nat):DY (some (R e sz sp cs)) off=cs[off]? := by
 show CU (Nat.blt off cs.length) ((Vw cs).get off)=_
 rw[Vx]
 by_cases h:off<cs.length
 ·have:Nat.blt off cs.length=true:=by rw[A8Y];exact h
  rw[this];rfl
 ·have:Nat.blt off cs.length=false:=by
   cases hb:Nat.blt off cs.length with
   | false=>rfl
   | true=>rw[A8Y]at hb;exact absurd hb h
  rw[this,A8W (by omega)];rfl
theorem Yl:∀ (n:Nat)(cs:List AV)(off:Nat),off+n≤cs.length→(Vw cs).take off n=some ((cs.drop off).take n)
 | 0,cs,off,_=>by simp[CT.take_zero]
 | n+1,cs,off,h=>by
  have hg:cs[off]? = some cs[off]:=A8O (by omega)
  simp only[CT.take_succ,Vx,hg,Yl n cs (off+1) (by omega)]
  rw[show cs.drop off=cs[off]::cs.drop (off+1)from(List.drop_eq_getElem_cons (by omega))]
  rfl
theorem D3{e sz:Nat}{sp:Bool}{cs:List AV}{off n:Nat}(h:off+n≤cs.length):EV (some (R e sz sp cs)) off n=some ((cs.drop off).take n):=by
 show CU (Nat.ble (off+n) cs.length) ((Vw cs).take off n)=_
 have:Nat.ble (off+n) cs.length=true:=by rw[A8Q];exact h
 rw[this,Yl n cs off h];rfl
theorem Hk(kt:TypeId)(es:List (AV×AV)):mapO kt (some (.map kt es))=some es:=by simp[mapO,CU]
theorem au(s:CO)(i off:Nat):EC s i off []=some s:=rfl
def OF(e:TypeId)(s:CO)(v:AV)(n sz:Nat)(cs:List AV)(O:List Nat):Prop:=
 (∃a,v=.slice a n (some n)∧O=[]∧cs.length=n * sz∧(a=none→n=0)∧∀i o,a=some (i,o)→i<s.next∧Di s i o (n * sz)=some cs) ∨
 (∃i p,v=.slice (some (i,0)) n none∧Jr e 0 s.next s v n sz cs i p∧O=i::p.toList)
theorem OF.len{e:TypeId}{s:CO}{v:AV}{n sz:Nat}{cs:List AV}{O:List Nat}(h:OF e s v n sz cs O):cs.length=n * sz:=by
 rcases h with⟨a,h1,h2,h3,h4⟩ | ⟨i,p,h1,h2,h3⟩
 ·exact h3
 ·exact h2.len
theorem oT{s s':CO}{i o n:Nat}(h:s'.heap.get i=s.heap.get i):Di s' i o n=Di s i o n:=by unfold Di rowAt;rw[h]
theorem OF.lt{e:TypeId}{s:CO}{v:AV}{n sz:Nat}{cs:List AV}{O:List Nat}(h:OF e s v n sz cs O):∀j∈O,j<s.next:=by
  rcases h with⟨a,h1,h2,h3,h4⟩ | ⟨i,p,h1,h2,h3⟩
  · subst h2;intro j hj;cases hj
  · subst h3
    intro j hj
    rcases h2.ex with⟨e,_⟩ | ⟨_,_,k2,k3,_⟩
    · rw[h1]at e;cases e
    · rcases A8I.1           hj with rfl | hj
      · exact k2
      · cases p with
        | none=>cases hj
        | some q =>
          have:j=q:=by simpa using hj
          rw[this]
          exact(k3 q rfl).2.1
def EQ:AV→Option Nat
 | .slice (some (i,_)) _ _=>some i
 | _=>none
theorem OF.frame{e:TypeId}{s s':CO}{v:AV}{n sz:Nat}{cs:List AV}{O:List Nat}(h:OF e s v n sz cs O)(hn:s.next≤s'.next)(hf:∀j,EQ v=some j→s'.heap.get j=s.heap.get j):OF e s' v n sz cs O:=by
 rcases h with⟨a,rfl,h2,h3,h4,h5⟩ | ⟨i,p,rfl,h2,h3⟩
 ·refine .inl ⟨a,rfl,h2,h3,h4,fun i o e=>?_⟩
  obtain⟨k1,k2⟩:=h5 i o e
  subst e
  exact⟨by omega,by rw[oT (hf i rfl)];exact k2⟩
 ·exact .inr ⟨i,p,rfl,(h2.mono hn).frame fun _ _=>hf i rfl,h3⟩
theorem OF.cells{e:TypeId}{s:CO}{v:AV}{n sz:Nat}{cs:List AV}{O:List Nat}(h:OF e s v n sz cs O):∃a cap,v=.slice a n cap∧Jq s.next s a cs:=by
  rcases h with⟨a,rfl,h2,h3,h4,h5⟩ | ⟨i,p,rfl,h2,h3⟩
  · refine⟨a,_,rfl,fun k u hk=>?_⟩
    have hlt:k<cs.length:=by
      rcases A8N k cs.length with h | h
      · exact h
      · rw[A8W h]at hk;cases hk
    cases a with
    | none=>rw[h4 rfl]at h3;simp at h3;subst h3;simp at hlt
    | some io =>
      obtain⟨i,o⟩:=io
      obtain⟨k1,k2⟩:=h5 i o rfl
      refine⟨i,o,rfl,k1,?_⟩
      unfold Di at k2
      simp only[A8G]at k2
      obtain⟨r,g1,g2⟩:=k2
      have g3:Nat.ble (o+n * sz) r.n=true∧r.c.take o (n * sz)=some cs:=by
        cases hb:Nat.ble (o+n * sz) r.n with
        | true=>rw[hb]at g2;exact⟨rfl,g2⟩
        | false=>rw[hb]at g2;cases g2
      have g4:o+n * sz≤r.n:=by simpa[A8Q]using g3.1
      have g5:=CT.take_get g3.2 k (by omega)
      rw[hk]at g5
      have g6:s.heap.get i=some (.row r):=by
        unfold rowAt at g1
        split at g1
        · injection g1 with g1;subst g1;assumption
        · cases g1
      exact Of g6 (by omega) g5
  · obtain⟨a,cap,e,hc⟩:=h2.cells
    exact⟨a,cap,e,hc⟩
theorem OF.append{P:Program}{st xt e:TypeId}{sz by_:Nat}(ht:P.underlying st=some (.slice e))(hs:DZ P e=some sz)(hb:Fe P e=some by_)(h0:0<sz)(hx:EE P xt=true)(hz:FU P e sz=true){s:CO}{v:AV}{n:Nat}{cs:List AV}{O:List Nat}(h:OF e s v n sz cs O)
    {ax:Option (Nat×Nat)} {m:Nat} {cx:Option Nat} {add:List AV} (hsrc:FT P s e sz (.slice ax m cx)=some (m,add)) (ha:add.length=m * sz) (hc:C3 add=true) (h1:(n+m) * by_≤1099511627776) (h2:n+m≤1099511627776):
    ∃v' s' O',DE P s [st,xt] [v,.slice ax m cx]=some (v',s')∧OF e s' v' (n+m) sz (cs++add) O'∧s.next≤s'.next∧s'.next≤s.next+1∧(∀j,j<s.next→j ∉ O→s'.heap.get j=s.heap.get j)∧(∀j∈O',j∈O∨s.next≤j)∧(∀j,EQ v'=some j→EQ v=some j∨s.next≤j):=by
  have hlen:=h.len
  rcases A9D m with rfl | hm
  ·
    have hadd:add=[]:=by simp at ha;exact ha
    subst hadd
    rw[List.append_nil,A8f]
    rcases h with⟨a,rfl,rfl,h3,h4,h5⟩ | ⟨i,p,rfl,h6,h7⟩
    · refine ⟨.slice a n (some n), s, [], ?_, .inl ⟨a, rfl, rfl, h3, h4, h5⟩, A8H         _, A8s         _, fun _ _ _ => rfl, fun j hj => (by cases hj), fun j hj => .inl hj⟩
      rw[HI ht hs hb h0 hx hsrc hc h1 h2]
      cases a with
      | none=>rw[h4 rfl];rfl
      | some io =>
        obtain⟨i,o⟩:=io
        simp only[appTo,JS,A8f,EA (A8H n),cond_true,EC,Option.bind_some]
    · refine ⟨.slice (some (i, 0)) n none, s, O, ?_, .inr ⟨i, p, rfl, h6, h7⟩, A8H         _, A8s         _, fun _ _ _ => rfl, fun j hj => .inl hj, fun j hj => .inl hj⟩
      rw[HI ht hs hb h0 hx hsrc hc h1 h2]
      rcases h6.ex with⟨e',_⟩ | ⟨_,k1,k2,k3,r,k4,k5,k6,k7,k8,k9⟩
      · cases e'
      · have hrow : rowAt s i = some r := by simp [rowAt, k4]
        have hrn:r.n=n * sz:=by rw[k5.1,h6.len]
        simp only[appTo,hrow,Option.bind_some,M1,k8,JF rfl,CU,cond_true,A8f,A8V]
        rw[show Nat.ble (n * sz) r.n=true from EA (by omega)]
        simp only[cond_true,EC,Option.bind_some]
  · rcases h with ⟨a, rfl, rfl, h3, h4, h5⟩ | ⟨i, p, rfl, h6, h7⟩
    ·
      refine⟨.slice (some (s.next,0)) (n+m) none,newObj s (GV e sz (CT.fill .leaf 0 (cs++add)) (cs++add).length none true),[s.next],?_,?_,A8s _,A8H _,fun j hj _=>by rw[DH,if_neg (by omega)],fun j hj=>by simp at hj;right;omega,fun j hj=>by simp[EQ]at hj;right;omega⟩
      · rw[HI ht hs hb h0 hx hsrc hc h1 h2]
        cases a with
        | none =>
          have hn0:=h4 rfl
          subst hn0
          have:cs=[]:=by simp at h3;exact h3
          subst this
          simp only[appTo,Iw (show m≠0 by omega),cond_false,FB,CU,hz,cond_true,A8i,A8V]
        | some io =>
          obtain⟨i,o⟩:=io
          obtain⟨k1,k2⟩:=h5 i o rfl
          simp only[appTo,JS,Pu (show n<n+m by omega),cond_false,k2,Option.bind_some,FB,CU,hz,cond_true]
      · refine .inr ⟨s.next,none,rfl,⟨by rw[A8X,h3,ha,A8o],.inr ⟨rfl,A8T _,A8k _,fun q hq=>(by cases hq),_,by rw[DH,if_pos rfl];rfl,⟨rfl,?_⟩,rfl,rfl,rfl,rfl,rfl⟩⟩,rfl⟩
        intro k u hk
        have hlt:k<(cs++add).length:=by
          rcases A8N k (cs++add).length with h' | h'
          · exact h'
          · rw[A8W h']at hk;cases hk
        show(CT.fill .leaf 0 (cs++add)).get k=some u
        rw[CT.get_fill,if_pos ⟨A8T _,by omega⟩]
        simpa using hk
    · obtain⟨a,cap,v',s',e1,e2,i',p',g1,g2,g3,g4,g5,g6,_⟩:=h6.appTo (A8H _) (A8T _) hz h0 ha hm
      injection e1 with e1 e3 e4
      subst e1;subst e4
      have hv':v'=.slice (some (i',0)) (n+m) none:=by
        rcases g1.ex with⟨_,e⟩ | ⟨e,_⟩
        · omega
        · exact e
      refine⟨v',s',i'::p'.toList,?_,.inr ⟨i',p',hv',g1,rfl⟩,g2.1,by omega,?_,?_,?_⟩
      · rw[HI ht hs hb h0 hx hsrc hc h1 h2]
        exact e2
      · intro j hj hO
        subst h7
        refine g2.2 j hj (fun e=>hO (by simp[e])) (fun e=>hO (by simp[e]))
      · intro j hj
        subst h7
        rcases A8I.1 hj with rfl | hj
        · right;omega
        · rcases g5 with rfl | rfl
          · cases hj
          · simp at hj;left;simp[hj]
      · intro j hj
        rw[hv']at hj
        simp[EQ]at hj
        right;omega
section
variable{P:Program}{s:CO}{os:List Cg}{b k i o off n t e sz:Nat}{sp:Bool}{cs vs:List AV}
theorem eT(cs:List AV):(AV.agg cs).cells=cs:=rfl
theorem eV(q:IntKind)(n:Int):(AV.int q n).cells=[.int q n]:=rfl
theorem eY(l:List Nat):(AV.str l).cells=[.str l]:=rfl
theorem ZZ(x:Bool):(AV.bool x).cells=[.bool x]:=rfl
theorem eW(m:Option Nat):(AV.map m).cells=[.map m]:=rfl
theorem eX(a:Option (Nat×Nat)):(AV.ptr a).cells=[.ptr a]:=rfl
theorem W3(a:Option (Nat×Nat))(n:Nat)(c:Option Nat):(AV.slice a n c).cells=[.slice a n c]:=rfl
theorem Za(f:FuncId)(a c:List AV):(AV.func f a c).cells=[.func f a c]:=rfl
theorem Ur:C3 []=true:=rfl
theorem Sp(v:AV)(l:List AV):C3 (v::l)=(v.isCell && C3 l):=rfl
theorem MY(q:IntKind)(n:Int):(AV.int q n).isCell=true:=rfl
theorem MZ(l:List Nat):(AV.str l).isCell=true:=rfl
theorem XV(x:Bool):(AV.bool x).isCell=true:=rfl
theorem RX(m:Option Nat):(AV.map m).isCell=true:=rfl
theorem Zz(a:Option (Nat×Nat)):(AV.ptr a).isCell=true:=rfl
theorem Va(a:Option (Nat×Nat))(n:Nat)(c:Option Nat):(AV.slice a n c).isCell=true:=rfl
theorem XW(f:FuncId)(a c:List AV):(AV.func f a c).isCell=true:=rfl
theorem EB{α:Type}(x:Option α):CU true x=x:=rfl
theorem qv(a b:Nat):Nat.beq a b=decide (a=b):=by
 rw[A9e,decide_eq_true_eq,Nat.beq_eq]
theorem qw(a b:Nat):Nat.ble a b=decide (a≤b):=by
 rw[A9e,decide_eq_true_eq,A8Q]
theorem Ha(h:GG P t=some false):CJ P s t (.ptr (some (i,o)))=DY (s.heap.get i) o:=by
 unfold CJ
 rw[h];rfl
theorem tF(h:GG P t=some true):CJ P s t (.ptr (some (i,o)))=(DZ P t).bind fun n=>(EV (s.heap.get i) o n).bind fun l=>some (.agg l):=by
 unfold CJ
 rw[h];rfl
theorem gy(v:AV):Cz P s t (.ptr (some (i,o))) v=(DZ P t).bind fun n=>CU (decide (v.cells.length=n)) (EC s i o v.cells):=by
 unfold Cz
 simp only[qv]
def A6V:Option Cg→Bool
 | some (.row r)=>FL r.mode && r.par.isNone
 | _=>false
def A5o(off:Nat)(vs:List AV):Option Cg→Option Cg
 | some (.row r)=>CU (Nat.ble (off+vs.length) r.n && C3 vs) (some (.row { r with c:=r.c.fill off vs,par:=none }))
 | _=>none
theorem A5j(e sz:Nat)(sp:Bool)(cs:List AV):A6V (some (R e sz sp cs))=true:=rfl
theorem A3V(e sz:Nat)(sp:Bool)(cs vs:List AV)(off:Nat):A5o off vs (some (R e sz sp cs))=CU (decide (off+vs.length≤cs.length) && C3 vs) (some (R e sz sp (KR cs off vs))):=by
 show CU (Nat.ble (off+vs.length) cs.length && C3 vs) (some (Cg.row { elem:=e,sz,n:=cs.length,c:=(Vw cs).fill off vs,spare:=sp,mode:=.own,par:=none,bytes:=true }))=_
 rw[qw]
 by_cases h:off+vs.length≤cs.length
 ·rw[Xy _ _ _ h]
  simp only[h,A9Z]
  rw[R,MO]
 ·simp only[h,A9a,Bool.false_and]
  rfl
theorem ar{v:AV}(h:A6V (s.heap.get i)=true):EC s i off (v::vs)=(A5o off (v::vs) (s.heap.get i)).bind fun o'=>some (setObj s i o'):=by
 unfold EC
 rw[Hc]
 cases hg:s.heap.get i with
 | none=>rw[hg]at h;cases h
 | some ob =>
  rw[hg]at h
  cases ob<;>first | (cases h;done) | skip
  rename_i r
  simp only[A6V,A9W]at h
  have hp:r.par=none:=by cases hh:r.par with | none=>rfl | some _=>rw[hh]at h;simp at h
  show CU (FL r.mode && Nat.ble (off+(v::vs).length) r.n && C3 (v::vs)) _=(CU (Nat.ble (off+(v::vs).length) r.n && C3 (v::vs)) _).bind _
  rw[h.1,Bool.true_and,Dm,hp]
  cases Nat.ble (off+(v::vs).length) r.n && C3 (v::vs)<;>rfl
theorem ai(cs:List AV)(off:Nat):KR cs off []=cs:=rfl
theorem YW(cs:List AV)(off:Nat)(v:AV)(vs:List AV):KR cs off (v::vs)=KR (cs.set off v) (off+1) vs:=rfl
theorem A1B(e:TypeId)(v:AV):Fj e v=some (R e 0 false v.cells,.ptr):=rfl
theorem F4(e:TypeId):Dz P e=(FV P e).bind fun z=>some (R e 0 false z.cells,.ptr):=rfl
theorem oY(i:Nat):Made.ptr.val i=.ptr (some (i,0)):=rfl
theorem oX(i:Nat):Made.map.val i=.map (some i):=rfl
theorem aF(i n:Nat):(Made.slice n).val i=.slice (some (i,0)) n (some n):=rfl
theorem Vr(a:Nat×Nat):CV (.ptr (some a))=some (.ptr (some a)):=rfl
end
abbrev A3f(n:Nat):AV:=.int .u32 (n:Int)
section
variable(P:Program)(t:TypeId){a b:Nat}
end
def HD(e:TypeId)(sz:Nat)(s:CO)(v:AV)(n:Nat)(cs:List AV)(O:List Nat):Prop:=
 (v=.slice none 0 (some 0)∧n=0∧cs=[]∧O=[])∨∃i p,v=.slice (some (i,0)) n none∧Jr e 0 s.next s v n sz cs i p∧O=i::p.toList
section
variable{e sz n:Nat}{s s':CO}{v:AV}{cs:List AV}{O:List Nat}
theorem HD.nil(e sz:Nat)(s:CO):HD e sz s (.slice none 0 (some 0)) 0 [] []:=.inl ⟨rfl,rfl,rfl,rfl⟩
theorem HD.len(h:HD e sz s v n cs O):cs.length=n * sz:=by
 rcases h with⟨_,rfl,rfl,_⟩ | ⟨i,p,_,h,_⟩
 ·simp
 ·exact h.len
theorem HD.lt(h:HD e sz s v n cs O):∀j∈O,j<s.next:=by
  rcases h with⟨_,_,_,rfl⟩ | ⟨i,p,hv,h,rfl⟩
  · intro j hj;cases hj
  · rcases h.ex with ⟨h1, _⟩ | ⟨_, _, h2, h3, _⟩
    · rw[hv]at h1;cases h1
    · intro j hj
      rcases A8I.1 hj with rfl | hj
      · exact h2
      · cases p with
        | none=>cases hj
        | some q=>simp at hj;subst hj;exact(h3 _ rfl).2.1
theorem HD.slotO(h:HD e sz s v n cs O){j:Nat}(hj:EQ v=some j):j∈O:=by
 rcases h with⟨rfl,_⟩ | ⟨i,p,rfl,_,rfl⟩
 ·cases hj
 ·injection hj with hj;subst hj;simp
theorem HD.frame(h:HD e sz s v n cs O)(hn:s.next≤s'.next)(hf:∀j∈O,s'.heap.get j=s.heap.get j):HD e sz s' v n cs O:=by
 rcases h with h | ⟨i,p,hv,h,rfl⟩
 ·exact .inl h
 ·exact .inr ⟨i,p,hv,(h.mono hn).frame fun _ _=>hf i (by simp),rfl⟩
theorem HD.slice(h:HD e sz s v n cs O):∃a cap,v=.slice a n cap∧Jq s.next s a cs:=by
 rcases h with⟨rfl,rfl,rfl,_⟩ | ⟨i,p,_,h,_⟩
 ·exact⟨none,some 0,rfl,Jq.nil⟩
 ·exact h.cells
theorem HD.row(h:HD e sz s v n cs O):(v=.slice none 0 (some 0)∧n=0∧cs=[])∨∃i r,v=.slice (some (i,0)) n none∧i∈O∧s.heap.get i=some (.row r)∧Holds r cs:=by
  rcases h with⟨h1,h2,h3,_⟩ | ⟨i,p,hv,h,rfl⟩
  · exact .inl ⟨h1,h2,h3⟩
  · rcases h.ex with ⟨h1, _⟩ | ⟨_, _, _, _, r, h4, h5, _⟩
    · rw[hv]at h1;cases h1
    · exact .inr ⟨i,r,hv,by simp,h4,h5⟩
theorem nj{r:FP}{cs:List AV}(h:Holds r cs){k:Nat}{u:AV}(hk:cs[k]? = some u):DY (some (.row r)) k=some u:=by
 have hlt:k<cs.length:=by
  rcases A8N k cs.length with h' | h'
  ·exact h'
  ·rw[A8W h']at hk;cases hk
 show CU (Nat.blt k r.n) (r.c.get k)=_
 rw[OK (show k<r.n by rw[h.1];exact hlt)]
 exact h.2 k u hk
theorem H6{r:FP}{cs:List AV}(h:Holds r cs){o m:Nat}(hle:o+m≤cs.length):EV (some (.row r)) o m=some ((cs.drop o).take m):=by
 show CU (Nat.ble (o+m) r.n) (r.c.take o m)=_
 rw[EA (show o+m≤r.n by rw[h.1];exact hle)]
 have hl:((cs.drop o).take m).length=m:=by simp;omega
 have:=h.take o ((cs.drop o).take m) (fun j u hj=>by
  have hjm:j<m:=by
   rcases A8N j m with h' | h'
   ·exact h'
   ·rw[A8W (by omega)]at hj;cases hj
  rw[A9P hjm,A8y]at hj
  exact hj)
 rw[hl]at this
 exact this
theorem HD.append{P:Program}{st xt by_:Nat}(ht:P.underlying st=some (.slice e))(hs:DZ P e=some sz)(hb:Fe P e=some by_)(h0:0<sz)(hx:EE P xt=true)(hz:FU P e sz=true)(h:HD e sz s v n cs O)
    {ax:Option (Nat×Nat)} {m:Nat} {cx:Option Nat} {add:List AV} (hm:0<m) (hsrc:FT P s e sz (.slice ax m cx)=some (m,add)) (ha:add.length=m * sz) (hc:C3 add=true) (h1:(n+m) * by_≤1099511627776) (h2:n+m≤1099511627776):
    ∃v' s' O',DE P s [st,xt] [v,.slice ax m cx]=some (v',s')∧HD e sz s' v' (n+m) (cs++add) O'∧s'.next=s.next+1∧(∀j,j<s.next→j ∉ O→s'.heap.get j=s.heap.get j)∧(∀j∈O',j∈O∨s.next≤j)∧EQ v'=some s.next:=by
  have key:∀ (i:Nat) (p:Option Nat),Jr e 0 s.next s v n sz cs i p→(∀j,j<s.next→j ∉ O→j≠i∧p≠some j)→(∀j,j=i∨p=some j→j∈O∨s.next≤j) →
      ∃v' s' O',DE P s [st,xt] [v,.slice ax m cx]=some (v',s')∧HD e sz s' v' (n+m) (cs++add) O'∧s'.next=s.next+1∧(∀j,j<s.next→j ∉ O→s'.heap.get j=s.heap.get j)∧(∀j∈O',j∈O∨s.next≤j)∧EQ v'=some s.next:=by
    intro i p hg hi hO
    obtain⟨a,cap,v',s',rfl,happ,i',p',hg',hap,_,rfl,hp',hn',_⟩:=hg.appTo (P:=P) (A8H _) (A8T _) hz h0 ha hm
    have hv':v'=.slice (some (s.next,0)) (n+m) none:=by
      rcases hg'.ex with⟨_,h0'⟩ | ⟨h1',_⟩
      · omega
      · exact h1'
    refine⟨v',s',s.next::p'.toList,by rw[HI ht hs hb h0 hx hsrc hc h1 h2];exact happ,.inr ⟨s.next,p',hv',hg',rfl⟩,hn',fun j hj hjO=>?_,fun j hj=>?_,by rw[hv'];rfl⟩
    · exact hap.2 j hj (hi j hj hjO).1 (hi j hj hjO).2
    · rcases A8I.1           hj with rfl | hj
      · exact .inr (A8H _)
      · rcases hp' with rfl | rfl
        · cases hj
        · simp at hj;subst hj;exact hO _ (.inl rfl)
  rcases h with⟨rfl,rfl,rfl,rfl⟩ | ⟨i,p,rfl,hg,rfl⟩
  · exact key s.next none (Jr.zero _ _ _ _ _ _ _) (fun j hj _=>⟨by omega,by simp⟩) (fun j hj=>by rcases hj with rfl | hj;exact .inr (A8H _);cases hj)
  · refine key i p hg (fun j hj hjO => ⟨fun e => hjO (by simp [e]), fun e => hjO (by simp [e])⟩) (fun j hj => ?_)
    rcases hj with rfl | rfl<;>simp
end
section
variable{P:Program}{s:CO}{i e sz o t:Nat}{sp:Bool}{cs:List AV}{v:AV}
end
def us(l:List Nat):List AV:=l.map A3f
theorem qK(l:List Nat):(us l).length=l.length:=by simp[us]
theorem aI{p q:Prop}(h:p)(k:q):p∧q:=⟨h,k⟩
abbrev AA:CX:=.loc 0
abbrev AB:CX:=.var 1
abbrev AC:CX:=.var 0
abbrev AD:CX:=.var 2
abbrev AE:CX:=.const (.int .i64 (0))
abbrev AF:CX:=.loc 1
abbrev AG:CX:=.var 3
abbrev AH:CX:=.loc 2
abbrev AI:CX:=.var 4
abbrev AJ:CX:=.var 6
abbrev AK:CX:=.var 5
abbrev AL:CX:=.const (.int .i64 (1))
abbrev AM:CX:=.loc 3
abbrev AN:CX:=.var 7
abbrev AO:CX:=.loc 4
abbrev AP:CX:=.var 8
abbrev AQ:CX:=.loc 6
abbrev AR:CX:=.loc 5
abbrev AS:CX:=.loc 7
abbrev AT:CX:=.var 9
abbrev AU:CX:=.loc 8
abbrev AW:CX:=.loc 12
abbrev AX:CX:=.loc 11
abbrev AY:CX:=.const (.ptr none)
abbrev AZ:CX:=.loc 10
abbrev Aa:CX:=.var 14
abbrev Ab:CX:=.var 12
abbrev Ac:CX:=.loc 9
abbrev Ad:CX:=.const (.slice none 0 (some 0))
abbrev Ae:CX:=.const (.bool false)
abbrev Af:CX:=.loc 16
abbrev Ag:CX:=.loc 17
abbrev Ah:CX:=.loc 15
abbrev Ai:CX:=.loc 14
abbrev Aj:CX:=.var 10
abbrev Ak:CX:=.var 15
abbrev Al:CX:=.loc 13
abbrev An:CX:=.const (.bool true)
abbrev Ao:CX:=.var 13
abbrev Aq:CX:=.var 11
abbrev Ar:CX:=.loc 18
abbrev As:CX:=.loc 20
abbrev At:CX:=.loc 21
abbrev Au:CX:=.loc 23
abbrev Aw:CX:=.const (.str [])
abbrev Ax:CX:=.const (.int .i64 (2))
abbrev Ay:CX:=.loc 19
abbrev Az:CX:=.const (.int .i64 (4))
abbrev BA:CX:=.var 16
abbrev BB:CX:=.loc 22
abbrev BC:CX:=.loc 24
abbrev BD:CX:=.const (.int .i64 (3))
abbrev BE:CX:=.const .nilFunc
abbrev BF:CX:=.const (.int .i64 (-1))
abbrev BG:CX:=.loc 25
abbrev BH:CX:=.loc 29
abbrev BI:CX:=.const (.str [32])
abbrev BJ:CX:=.const (.str [41])
abbrev BK:CX:=.const (.int .i64 (6))
abbrev BL:CX:=.const (.int .u8 (3))
abbrev BM:CX:=.const (.int .i64 (5))
abbrev BN:CX:=.const (.int .i64 (4096))
abbrev BO:CX:=.const (.int .i64 (4097))
abbrev BP:CX:=.const (.int .i64 (8))
abbrev BQ:CX:=.const (.int .i64 (10))
abbrev BR (n : Int):CX:=.const (.int .i64 n)
abbrev BS (l : List Nat):CX:=.const (.str l)
abbrev BT (t:TypeId):Sh:=.r1 (fun s a=>CJ prog s t a)
abbrev BU (t:TypeId)(i:Nat):Sh:=.p1 (fun x=>CL prog t x i)
abbrev BV (t:TypeId)(i:Nat):Sh:=.p1 (fun x=>GT prog t x i)
abbrev BW (i:Nat):Sh:=.p1 (fun x=>Ry x i)
abbrev BX (o:BinOp)(t:TypeId):Sh:=.p2 (Ch prog o t)
abbrev BY (t:TypeId):Sh:=.p2 (CQ prog t)
abbrev BZ (t:TypeId):Sh:=.e (fun s=>GA (fun a x=>DI (Cz prog s t a x)))
abbrev Ba (t:TypeId):Sh:=.mk (fun l=>match l with | [v]=>Fj t v | _=>none)
abbrev Bb (t:TypeId):Sh:=.mk (fun l=>match l with | []=>Dz prog t | _=>none)
abbrev Bc (t:TypeId):Sh:=.r (fun s l=>match l with | [x]=>D9 prog s t x | _=>none)
abbrev Bd (t:TypeId)(n:Nat)(i:List Nat):Sh:=.mk (fun l=>(Cd prog t n (zipIdx i l)).bind fun r=>some (r,.slice n))
abbrev Be (t:TypeId)(i:List Nat):Sh:=.p (fun l=>C8 prog t (zipIdx i l))
abbrev Bf (i j:Nat):Sh:=.e (fun s l=>DE prog s [i,j] l)
abbrev Bg (f a b:Nat):Sh:=.p (fun l=>some (.func f (l.take a) (l.drop b)))
abbrev Bh (f:FuncId):Sh:=.call f
abbrev Bi:Sh:=.p1 some
abbrev Bj:Sh:=.p Rw
abbrev Bk:Sh:=.callv
abbrev Bl:Sh:=.p1 CV
def Bn (h:Sh)(x:List CX):CK:=⟨none,h,x,.push,[]⟩
def Bo (h:Sh)(x:List CX)(j:Nat):CK:=⟨none,h,x,.set j,[]⟩
def Bp (g:CX)(h:Sh)(x:List CX):CK:=⟨some (g,false),h,x,.push,[]⟩
def Bq (g:CX)(h:Sh)(x:List CX):CK:=⟨some (g,true),h,x,.push,[]⟩
def Br (h:Sh)(x:List CX)(r:List Kh):CK:=⟨none,h,x,.push,r⟩
def Bs (h:Sh)(x:List CX)(a:CX):Kh:=⟨none,h,x,a⟩
def QS:=aI @Bn.eq_1<|aI @Bo.eq_1<|aI @Bp.eq_1<|aI @Bq.eq_1<|aI @Br.eq_1<|aI @Bs.eq_1<|aI @Qc.eq_1 <| aI @Qc.eq_3 <| aI @Qc.eq_5 <| aI @Qc.eq_6 <| aI @Qc.eq_8 <| aI @Qc.eq_9 <| aI @Qc.eq_10 <| aI @Qc.eq_11 <| aI @Qc.eq_12 <| aI @Qd.eq_1 <| aI @Qd.eq_2 <| aI @Qe.eq_1 <| aI @Qe.eq_2 <| aI @Qf <| aI @Qg <| aI @Qh.eq_1 <| aI @Qh.eq_2 <| aI @Qi <| aI @Qj <| aI @Qk <| aI @Ql.eq_1 <| aI @Ql.eq_2 <| aI @Ql.eq_3 <| aI @Qm <| aI @Qn.eq_1 <| aI @Qn.eq_2 <| aI @A9S <| aI @A9T <| aI @Qo <| aI @Qp <| aI @Qq <| aI @Qr <| aI @Qs <| aI @Qt <| aI @Qu <| aI @Qv <| aI @Qw <| aI @Qx <| aI @Qy <| aI @Qz <| aI @Ra <| aI @Rb <| aI @Rc <| aI @Rd <| aI @Re <| aI @Rf <| aI @Rg <| aI @Rh <| aI @Ri <| aI @Rk <| aI @Rm <| aI @Rn <| aI @Ro <| aI @Rq <| aI @Rs <| aI @Rt <| aI @Ru <| aI @Bool.not_true <| aI @Bool.not_false <| aI @Option.bind_some.{0,0} <| aI @Rw.eq_1 <| aI @Rx.eq_1 <| aI @Rx.eq_2 <| aI @Ry.eq_1 <| aI @List.getElem?_cons_zero.{0} <| aI @List.getElem?_cons_succ.{0} <| aI @Rz <| aI @Wa <| aI @Wb <| aI @Wc <| aI @Wd <| aI @We <| @Wf
def Wg:=aI @Ha <| aI @tF <| aI @gy <| aI @ar <| aI @au <| aI @A5j <| aI @A3V <| aI @CR <| aI @Cm <| aI @Lc <| aI @D3 <| aI @H7 <| aI @Ce <| aI @Pg <| aI @YS <| aI @Cp <| aI @Co <| aI @CS <| aI @ai <| aI @YW <| aI @A1B <| aI @F4 <| aI @oY <| aI @oX <| aI @aF <| aI @Vr <| aI @EB <| aI @eT <| aI @eV <| aI @eY <| aI @ZZ <| aI @eW <| aI @eX <| aI @W3 <| aI @Za <| aI @Ur <| aI @Sp <| aI @MY <| aI @MZ <| aI @XV <| aI @RX <| aI @Zz <| aI @Va <| aI @XW <| aI @A8P.{0} <| aI @A8b.{0} <| aI @A8e.{0} <| aI @A8i.{0} <| aI @List.set_cons_zero.{0} <| aI @List.set_cons_succ.{0} <| aI @List.getElem?_cons_zero.{0} <| aI @List.getElem?_cons_succ.{0} <| aI @A8p.{0} <| aI @List.drop_succ_cons.{0} <| aI @List.take_succ_cons.{0} <| aI @List.take_zero.{0} <| aI @A8V <| aI @A9Z <| aI @A9a <| aI @Bool.true_and <| aI @Bool.and_true <| aI @Nat.lt_add_one <| aI @A8H <| aI @A9b.{0} <| aI @GA.eq_1 <| aI @qa.eq_1 <| aI @DI.eq_1 <| aI @DI.eq_2 <| @Ry.eq_1
end
end Go.Proofs.YtoaaclpjkelofaaGreatDoor.Am
set_option linter.all false
set_option maxRecDepth 100000
namespace Go.Proofs.YtoaaclpjkelofaaGreatDoor.Am
open Go Go.Proofs
noncomputable section
open Tryz
theorem HC:DZ prog 3=some 1:=by kernel_rfl
theorem A6H:Fe prog 3=some 8:=by kernel_rfl
theorem Ee:GG prog 3=some false:=by kernel_rfl
theorem A6B:FV prog 3=some (.int .i64 (0)):=by kernel_rfl
theorem A6p:GG prog 4=some false:=by kernel_rfl
end
end Go.Proofs.YtoaaclpjkelofaaGreatDoor.Am
set_option linter.all false
set_option maxHeartbeats 1000000
set_option maxRecDepth 12000
namespace Go.Proofs.YtoaaclpjkelofaaGreatDoor.Am
open Go Go.Proofs
noncomputable section
open Tryz
def Hu:List FuncId:=[32,5,86,59,26,27,53,85,73,206,66,104]
structure TG(E:Dw):Prop where
 P:E.P=prog
 nat:∀ (f:FuncId) (xs:List AV) (s:CO),f ∉ Hu→E.nat f xs s=none
theorem TG.go{E:Dw}(hE:TG E){f:FuncId}{xs:List AV}{cf:Cr}{K:AV→CO→Prop}{s:CO}(hf:CY prog f=some cf)(hne:f ∉ Hu)(ha:xs.length=cf.na)(h:Qa E none cf.body (Ends prog cf.results K) (Ql xs cf.nv) [] s):WF E f xs K s:=
 WF.body' (hE.nat f xs s hne) (by rw[hE.P];exact hf) ha (by rw[hE.P];exact h)
section
variable{E:Dw}{s:CO}
end
end
end Go.Proofs.YtoaaclpjkelofaaGreatDoor.Am
set_option linter.all false
namespace Go.Proofs.YtoaaclpjkelofaaGreatDoor.Am
open Go Go.Proofs
noncomputable section
open Tryz
theorem En{s s':CO}{l:Nat}(h:s'.heap.get l=s.heap.get l):Df s' l=Df s l:=by unfold Df;rw[h]
theorem Ep(s:CO)(l:Nat)(r:Fv):Df (setObj s l (.loop r)) l=some r:=by unfold Df;rw[RU,if_pos rfl]
def PC(Q:Da→Prop)(var:List AV)(marks:List Nat)(s:CO)(pd:Option Code):Prop:=match pd with
 | none=>Q ⟨.normal,var,marks,s⟩
 | some .ret=>Q ⟨.ret,var,marks,s⟩
 | some (.exit id)=>Q ⟨.exit id,var,marks,s⟩
 | some _=>False
theorem pR{Q:Da→Prop}{var:List AV}{marks:List Nat}{s:CO}{pd:Option Code}(h:PC Q var marks s pd):∃r,Kt var marks s pd=some r∧Q r:=by
 unfold PC at h
 unfold Kt
 split at h
 ·exact⟨_,rfl,h⟩
 ·exact⟨_,rfl,h⟩
 ·exact⟨_,rfl,h⟩
 ·exact h.elim
def Gv(fn:FuncId)(var:List AV)(ps:Array Tmp)(a b:Code)(dfr:Nat):Fv:={ state:=.ready,pending:=none,fn,var,params:=ps,assign:=a,body:=b,dfr }
theorem WC.range{E:Dw}{Q:Da→Prop}{var:List AV}{marks:List Nat}{s:CO}{fn:FuncId}{f:CX}{ps:Array Tmp}{a b:Code}{g:FuncId}{first cap:List AV}(hf:Fz [] var f=.func g first cap)
  (h:WF E g (first++([.yield (s.next+1)]++cap)) (fun _ s'=>∃r,Df s' (s.next+1)=some r∧Zy r.state=false∧PC Q var (s.next::marks) (setObj s' (s.next+1) (.loop { r with state:=.exhausted })) r.pending)
   (newObj (newObj s .mark) (.loop (Gv fn var ps a b s.next)))):WC E none (.rangeFunc fn f ps a b) Q var marks s:=by
 obtain⟨n,p,h1,r,h2,h3,h4⟩:=h
 obtain⟨res,h5,h6⟩:=pR h4
 refine⟨n+1,res,?_,h6⟩
 show FM (FI E n) none (.rangeFunc fn f ps a b) var marks s=some res
 simp only[FM,Q5,Ix,LV,hf,Kw]
 have e:(newObj s .mark).next=s.next+1:=rfl
 rw[e]
 have h1':=h1
 unfold Gv at h1'
 rw[h1']
 simp only[Option.bind_some,h2,h3,cond_false,h5]
theorem WR.round{E:Dw}{K:AV→CO→Prop}{l:Nat}{xs:List AV}{s:CO}{r:Fv}{var:List AV}{ca cb:Ck}(h1:Df s l=some r)(h2:FW (Fu E.P r.fn) r.var r.params.toList xs=some var)
  (h3:HL E.P r.fn r.assign=some ca) (h4:HL E.P r.fn r.body=some cb)
  (h:WC E (some l) ca (fun q=>q.exit=.normal∧∃r',Df q.st l=some r'∧J7 r'.state=true ∧
   WC E (some l) cb (fun q2=>∃r'',Df q2.st l=some r''∧K (.bool (Ef q2.exit).isNone) (setObj q2.st l (.loop { r'' with state:=IC (Ef q2.exit),pending:=Ef q2.exit }))) q.var q.marks (setObj q.st l (.loop { r' with state:=.busy }))) var [] s):WR E l xs K s:=by
 obtain⟨n,q,g1,g2,r',g3,g4,m,q2,g5,r'',g6,g7⟩:=h
 refine⟨max n m+1,(_,_),?_,g7⟩
 show Pj E (FI E (max n m)) l xs s=_
 simp only[Pj,h1,Option.bind_some,h2,h3,h4,Lk,(JA E (A9N n m)).code g1,g2,K7,cond_true,g3,g4,Nl,(JA E (Nat.le_max_right n m)).code g5,g6]
 rfl
def FG:Code→List (Code×Code)
 | .seq x y=>FG x++FG y
 | .cond _ x y=>FG x++FG y
 | .block _ c=>FG c
 | .loop c=>FG c
 | .scope c=>FG c
 | .rangeFunc _ _ a b=>FG a++FG b++[(a,b)]
 | _=>[]
def I7 (f k:Nat):Code×Code:=(((prog.funcs[f]?).bind fun fn=>fn.body.bind fun c=>(FG c)[k]?)).getD (.skip,.skip)
end
end Go.Proofs.YtoaaclpjkelofaaGreatDoor.Am
set_option linter.all false
set_option maxHeartbeats 1000000
set_option maxRecDepth 12000
namespace Go.Proofs.YtoaaclpjkelofaaGreatDoor.Am
open Go Go.Proofs
noncomputable section
open Tryz
theorem Tg(a:Option (Nat×Nat))(n:Nat)(cap:Option Nat):IG (.slice a n cap) (.slice a n cap)=true:=by
 cases a<;>cases cap<;>simp[IG]
theorem Hh{s:CO}{loc var:List AV}{f:CO→AV→Option AV}{x ans:CX}(h:f s (Fz loc var x)=some (Fz loc var ans))(he:IG (Fz loc var ans) (Fz loc var ans)=true):JD s loc var ⟨none,.r1 f,[x],ans⟩=true:=by
 unfold JD
 show(!true || MM (f s (Fz loc var x)) (Fz loc var ans))=true
 rw[h]
 exact he
section
variable{E:Dw}{s:CO}
end
end
end Go.Proofs.YtoaaclpjkelofaaGreatDoor.Am
set_option linter.all false
set_option maxHeartbeats 1000000
set_option maxRecDepth 16000
namespace Go.Proofs.YtoaaclpjkelofaaGreatDoor.Am
open Go Go.Proofs
noncomputable section
open Tryz
theorem HW:∀ (M:List Nat)(s:CO),M.Nodup→(∀m∈M,s.heap.get m=some .mark)→∃s',EL s M=some s'∧s'.next=s.next∧∀j,j ∉ M→s'.heap.get j=s.heap.get j
 | [],s,_,_=>⟨s,rfl,rfl,fun _ _=>rfl⟩
 | m::M,s,hn,hm=>by
  obtain⟨n1,n2⟩:=A8x.1 hn
  obtain⟨s',h1,h2,h3⟩:=HW M (Eo s m) n2 (fun x hx=>by
   rw[RT,if_neg (fun(e:x=m)=>n1 (e▸hx))];exact hm x (A8J _ hx))
  refine⟨s',?_,h2,fun j hj=>?_⟩
  ·show(match s.heap.get m with | some .mark=>EL (Eo s m) M | _=>none)=_
   rw[hm m A8M]
   exact h1
  ·rw[h3 j (fun h=>hj (A8J _ h)),RT,if_neg (fun(e:j=m)=>hj (e▸A8M))]
section
variable{E:Dw}{s:CO}
end
end
end Go.Proofs.YtoaaclpjkelofaaGreatDoor.Am
set_option linter.all false
namespace Go.Proofs.YtoaaclpjkelofaaGreatDoor.Am
noncomputable section
open Tryz
structure Wr where
 neg:Bool
 num:Nat
 den:Nat
end
end Go.Proofs.YtoaaclpjkelofaaGreatDoor.Am
set_option linter.all false
set_option maxHeartbeats 1000000
set_option maxRecDepth 16000
namespace Go.Proofs.YtoaaclpjkelofaaGreatDoor.Am
open Go Go.Proofs
noncomputable section
open Tryz
section
variable{P:Program}{s:CO}{i e sz t n:Nat}{sp:Bool}{cs cs0:List AV}
theorem FF(P:Program)(s:CO)(v:List AV)(x:CX)(t:TypeId)(l:List (CX×Option TypeId)):Dj P s v ((x,some t)::l)=(CJ P s t (Fz [] v x)).bind fun u=>(Dj P s v l).bind fun r=>some (u::r):=rfl
end
theorem DL.set{b i:Nat}{s s':CO}(h:DL b s s')(hi:b≤i)(o:Cg):DL b s (setObj s' i o):=⟨h.1,fun j hj=>(CS _ (by omega)).trans (h.2 j hj)⟩
section
variable{E:Dw}{s:CO}
end
end
end Go.Proofs.YtoaaclpjkelofaaGreatDoor.Am
set_option linter.all false
set_option maxRecDepth 16000
namespace Go.Proofs.YtoaaclpjkelofaaGreatDoor.Am
open Go Go.Proofs
noncomputable section
open Tryz
section
variable{P:Program}{ρ ρ1 ρ2:DV}{s s1 s2:CO}{w w0 w1 w2:World}
theorem DU.addRow(h:DU P ρ s w)(hf:DB ρ s){r:FP}{rb:RB}(hok:Dr (EX ρ s.next rb) w r rb)(hlt:rb.b<w.heap.size)(hne:∀j oj rj,s.heap.get j=some oj→ρ j=some rj→rj.b≠rb.b):DU P (EX ρ s.next rb) (newObj s (.row r)) w:=by
  have hfn:=(hf s.next (A8H _)).1
  have hle:=Dc (rb:=rb) hfn
  refine⟨?_,?_,?_,?_⟩
  · intro x ox rx hx hrx
    rw[DC]at hx
    by_cases e:x=s.next
    · subst e
      rw[if_pos rfl]at hx
      injection hx with hx
      rw[Cf]at hrx
      injection hrx with hrx
      subst hx;subst hrx
      exact hok
    · rw [if_neg e] at hx
      rw[CZ rb e]at hrx
      exact(h.obj x ox rx hx hrx).mono hle rfl
  · intro x rx hrx
    by_cases e:x=s.next
    · subst e
      rw[Cf]at hrx
      injection hrx with hrx
      subst hrx
      exact hlt
    · rw[CZ rb e]at hrx
      exact h.lt x rx hrx
  · intro x y ox oy rx ry hxy hx hy hrx hry hbb hw
    rw[DC]at hx hy
    by_cases ex:x=s.next
    · subst ex
      have ey:y≠s.next:=fun e=>hxy e.symm
      rw[Cf]at hrx
      injection hrx with hrx
      subst hrx
      rw[if_neg ey]at hy
      rw[CZ rb ey]at hry
      exact absurd hbb.symm (hne y oy ry hy hry)
    · by_cases ey : y = s.next
      · subst ey
        rw[Cf]at hry
        injection hry with hry
        subst hry
        rw[if_neg ex]at hx
        rw[CZ rb ex]at hrx
        exact absurd hbb (hne x ox rx hx hrx)
      · rw [if_neg ex] at hx
        rw[if_neg ey]at hy
        rw[CZ rb ex]at hrx
        rw[CZ rb ey]at hry
        exact h.sep x y ox oy rx ry hxy hx hy hrx hry hbb hw
  · intro x ox g hx hgo
    rw[DC]at hx
    by_cases e:x=s.next
    · subst e;exact⟨_,Cf _ _⟩
    · rw[if_neg e]at hx
      obtain⟨r',hr'⟩:=h.glb x ox g hx hgo
      exact⟨r',hle _ _ hr'⟩
theorem Fr.addRow(h:Fr ρ s w0 ρ1 s1 w)(hf:DB ρ1 s1){r:FP}{rb:RB}(hge:w0.heap.size≤rb.b):Fr ρ s w0 (EX ρ1 s1.next rb) (newObj s1 (.row r)) w:=by
  have hfn:=(hf s1.next (A8H _)).1
  have hle:=Dc (rb:=rb) hfn
  have hn:=h.next
  refine⟨DV.le_trans h.le hle,?_,by show s.next≤s1.next+1;omega,h.size,h.os,h.tape,h.output,h.keep,?_,?_,fun x rb' hx h0=>?_,fun x ox rb' hx h0=>?_⟩
  · intro x hx hxr
    have hxr':x<s.next∨s1.next+1≤x:=hxr
    have:x≠s1.next:=by omega
    rw[CZ rb this]
    exact h.fresh x hx (by omega)
  · rintro b ⟨x, ox, rx, hx, hw, hrx, rfl⟩
    rw[DC]at hx
    by_cases e:x=s1.next
    · subst e
      rw[Cf]at hrx
      injection hrx with hrx
      subst hrx
      exact .inr hge
    · rw [if_neg e] at hx
      rw[CZ rb e]at hrx
      exact h.own _ ⟨x,ox,rx,hx,hw,hrx,rfl⟩
  · intro x hx hxr
    have hxr':x<s.next∨s1.next+1≤x:=hxr
    rw[DC,if_neg (by omega)]
    exact h.unborn x hx (by omega)
  · by_cases e : x = s1.next
    · subst e;rw[Cf]at hx;injection hx with hx;subst hx;exact .inl hge
    · rw[CZ rb e]at hx;exact h.blk x rb' hx h0
  · rw[DC]at hx
    by_cases e:x=s1.next
    · subst e;have h1:=h.le _ _ h0;rw[hfn]at h1;cases h1
    · rw[if_neg e]at hx;exact h.dom x ox rb' hx h0
def TA(l:List Nat):FP:={ elem:=185,sz:=1,n:=l.length,c:=CT.fill .leaf 0 (us l),spare:=true,mode:=.own,par:=none,bytes:=false }
def aQ(s:CO):List Nat→AV×CO
 | []=>(.slice none 0 (some 0),s)
 | x::l=>(.slice (some (s.next,0)) (x::l).length none,newObj s (.row (TA (x::l))))
def uW(b:Nat)(s:CO)(v:AV)(l:List Nat):Prop:=
 (l=[]∧v=.slice none 0 (some 0))∨(l≠[]∧∃i,v=.slice (some (i,0)) l.length none∧b≤i∧∃r,s.heap.get i=some (.row r)∧Holds r (us l)∧FL r.mode=true∧r.sz=1∧r.elem=185)
theorem sZ{l:List Nat}{k:Nat}{v:AV}(h:(us l)[k]? = some v):JZ v=true:=by
 have:(l.map A3f)[k]? = some v:=h
 rw[A8j]at this
 obtain⟨x,_,rfl⟩:=Option.map_eq_some_iff.1 this
 rfl
theorem pZ{ρ':DV}{s':CO}{b:Nat}{v:AV}{l:List Nat}{v':Value}(hs:uW b s' v l)(h':DU P ρ' s' w)(hv:Cc ρ' v v')
    (hge:∀i o rb,b≤i→s'.heap.get i=some o→wr o=true→ρ' i=some rb→w0.heap.size≤rb.b)
    (h1:DU P ρ1 s1 w) (hf1:DB ρ1 s1) (hfr:Fr ρ s w0 ρ1 s1 w) (hne:∀i rb,EQ v=some i→ρ' i=some rb→∀j oj rj,s1.heap.get j=some oj→ρ1 j=some rj→rj.b≠rb.b):
    ∃ρ2,DU P ρ2 (aQ s1 l).2 w∧DB ρ2 (aQ s1 l).2∧Fr ρ s w0 ρ2 (aQ s1 l).2 w∧ρ1.le ρ2∧Cc ρ2 (aQ s1 l).1 v' ∧
      (∀j oj rj,(aQ s1 l).2.heap.get j=some oj→ρ2 j=some rj→(∃o1,s1.heap.get j=some o1∧ρ1 j=some rj)∨∃i rb,EQ v=some i∧ρ' i=some rb∧rj.b=rb.b):=by
  rcases hs with⟨rfl,rfl⟩ | ⟨hl,i,rfl,hbi,r,hg,hh,hm,hsz,hel⟩
  · refine⟨ρ1,h1,hf1,hfr,DV.le_refl _,Ek rfl hv,fun j oj rj hj hr=>.inl ⟨oj,hj,hr⟩⟩
  · cases l with
    | nil=>exact absurd rfl hl
    | cons x l =>
      cases hv with
      | @sliceOpen _ _ _ c rb hr q1 q2 q3 q4 =>
        have hok:Dr ρ' w r rb:=h'.obj i _ rb hg hr
        have hrn:r.n=(x::l).length:=by rw[hh.1,qK]
        have hmo:r.mode≠.ro:=fun e=>by rw[e]at hm;cases hm
        obtain⟨cs,k1,k2⟩:=hok.own hmo
        have hno:∀ (σ:DV),Dr σ w (TA (x::l)) rb:=fun σ=>by
          refine⟨fun k u hk hu=>?_,by show(x::l).length≤_;rw[← hrn];exact hok.le,by show 1=_;rw[← hsz];exact hok.sz,fun e=>(by cases e),fun _=>⟨cs,by show _=some (Obj.cells cs 185 (0,0));rw[← hel];exact k1,k2⟩,fun e=>(by cases e),fun g e=>(by cases e),fun p e=>(by cases e)⟩
          have hk':k<(x::l).length:=hk
          have hu':(us (x::l))[k]? = some u:=by
            have:(CT.fill .leaf 0 (us (x::l))).get k=some u:=hu
            rw[CT.get_fill,if_pos ⟨A8T _,by rw[qK];omega⟩]at this
            simpa using this
          obtain⟨v',e1,e2⟩:=hok.cells k u (by omega) (hh.2 k u hu')
          exact⟨v',e1,Ek (sZ hu') e2⟩
        have hlt:=h'.lt i rb hr
        refine⟨EX ρ1 s1.next rb,h1.addRow hf1 (hno _) hlt (hne i rb rfl hr),hf1.new _ _,hfr.addRow hf1 (hge i _ rb hbi hg hm hr),Dc (hf1 s1.next (A8H _)).1,.sliceOpen (Cf _ _) q1 q2 q3 q4,fun j oj rj hj hr2=>?_⟩
        have hj':(newObj s1 (.row (TA (x::l)))).heap.get j=some oj:=hj
        rw[DC]at hj'
        by_cases e:j=s1.next
        · subst e
          rw[Cf]at hr2
          injection hr2 with hr2
          exact .inr ⟨i,rb,rfl,hr,by rw[← hr2]⟩
        · rw [if_neg e] at hj'
          rw[CZ rb e]at hr2
          exact .inl ⟨oj,hj',hr2⟩
end
end
end Go.Proofs.YtoaaclpjkelofaaGreatDoor.Am
set_option linter.all false
set_option maxRecDepth 100000
namespace Go.Proofs.YtoaaclpjkelofaaGreatDoor.Am
open Go Go.Proofs
noncomputable section
open Tryz
theorem A5s:DZ prog 84=some 5:=by kernel_rfl
theorem A4F:GG prog 84=some true:=by kernel_rfl
theorem A3l:FV prog 84=some (.agg [(.bool false),(.slice none 0 (some 0)),(.slice none 0 (some 0)),(.slice none 0 (some 0)),(.slice none 0 (some 0))]):=by kernel_rfl
theorem A3D(cs:List AV):GT prog 84 (.agg cs) 1=cs[3]? := by kernel_rfl
theorem aw:DZ prog 30=some 1:=by kernel_rfl
theorem A6I:Fe prog 30=some 24:=by kernel_rfl
theorem IT:GG prog 30=some false:=by kernel_rfl
theorem A3k:FV prog 30=some (.slice none 0 (some 0)):=by kernel_rfl
end
end Go.Proofs.YtoaaclpjkelofaaGreatDoor.Am
set_option linter.all false
namespace Go.Proofs.YtoaaclpjkelofaaGreatDoor.Am
open Go Go.RowKit
noncomputable section
open Tryz
def XS(x:Int):List Int→List Int
 | []=>[x]
 | y::l=>bif WQ x y then x::y::l else y::XS x l
def DS:List Int→List Int
 | []=>[]
 | x::l=>XS x (DS l)
theorem OW(x:Int):∀l:List Int,(XS x l).Perm (x::l)
 | []=>.refl _
 | y::l=>by
  unfold XS
  cases WQ x y with
  | true=>exact .refl _
  | false=>exact((OW x l).cons y).trans (.swap x y l)
theorem EM:∀l:List Int,(DS l).Perm l
 | []=>.refl _
 | x::l=>(OW x _).trans ((EM l).cons x)
theorem PJ(x:Int):∀l:List Int,l.Pairwise (·≤·)→(XS x l).Pairwise (·≤·)
 | [],_=>by simp[XS]
 | y::l,h=>by
  unfold XS
  have hl:=A9I.1 h
  rw[Hq]
  by_cases hxy:x<y
  ·simp only[hxy,A9Z,cond_true]
   refine A9I.2 ⟨fun z hz=>?_,h⟩
   rcases A8I.1 hz with rfl | hz
   ·omega
   ·have:=hl.1 z hz;omega
  ·simp only[hxy,A9a,cond_false]
   refine A9I.2 ⟨fun z hz=>?_,PJ x l hl.2⟩
   rcases A8I.1 ((OW x l).mem_iff.1 hz)with rfl | hz
   ·omega
   ·exact hl.1 z hz
theorem NP:∀l:List Int,(DS l).Pairwise (·≤·)
 | []=>.nil
 | x::l=>PJ x _ (NP l)
theorem gu{l m:List Int}(hp:l.Perm m)(hl:l.Pairwise (·≤·))(hm:m.Pairwise (·≤·)):l=m:=by
  induction l generalizing m with
  | nil=>exact(List.nil_perm.1 hp).symm
  | cons a l ih =>
    cases m with
    | nil=>exact absurd hp.length_eq (by simp)
    | cons b m =>
      have hl':=A9I.1 hl
      have hm':=A9I.1 hm
      have hab:a=b:=by
        have h1:a∈b::m:=hp.mem_iff.1 A8M
        have h2:b∈a::l:=hp.mem_iff.2 A8M
        rcases A8I.1 h1 with e | h1
        · exact e
        · rcases A8I.1           h2 with e | h2
          · exact e.symm
          · have:=hm'.1 a h1;have:=hl'.1 b h2;omega
      subst hab
      rw[ih hp.cons_inv hl'.2 hm'.2]
theorem PN{l m:List Int}(h:l.Perm m):m.mergeSort (fun x y=>decide (x≤y))=DS l:=by
 refine gu ((List.mergeSort_perm _ _).trans (h.symm.trans (EM l).symm)) ?_ (NP l)
 have:=List.pairwise_mergeSort (le:=fun(x y:Int)=>decide (x≤y)) (by intro a b c;simp;omega) (by intro a b;simp;omega) m
 exact this.imp (by intro a b h;simpa using h)
def PP:List (AV×AV)→Option (List Int)
 | []=>some []
 | (.int .i64 n,_)::l=>(PP l).bind fun r=>some (n::r)
 | _=>none
def Z3(n:Int):AV:=.int .i64 n
def Ln(tI:TypeId)(ks:List Int)(s:CO):Option (AV×CO):=match ks with
 | []=>some (.slice none 0 (some 0),s)
 | k::ks=>CU (Nat.ble (k::ks).length 1000000) (some (.slice (some (s.next,0)) (k::ks).length none,newObj s (GV tI 1 (CT.fill .leaf 0 ((DS (k::ks)).map Z3)) (k::ks).length none true)))
def Gz(g:FuncId)(kt tI:TypeId)(s:CO):List AV→Option (AV×CO)
 | [.func f [] [.ptr (some (i,o))]]=>CU (Nat.beq f g && Nat.beq o 0) <| (rowAt s i).bind fun r=>CU r.bytes <| (FQ s i o).bind fun m=>match m with
  | .map none=>some (.slice none 0 (some 0),s)
  | .map (some j)=>(Jf s kt j).bind fun es=>(PP es).bind fun ks=>Ln tI ks s
  | _=>none
 | _=>none
section
variable{P:Program}{ρ ρ1 ρ2:DV}{s s1 s2:CO}{w w1 w2:World}
def Uq(P:Program)(f g:FuncId)(kt tI:TypeId):Prop:=
 (∀ (Bm b nn:Nat) (D0:DataW Value) (w:World),Bm<w.heap.size→w.cell? ⟨Bm,0,none⟩=some (.map (some b))→w.ownsMap P kt Rv b nn D0→Maps.size D0≤1000000 →
  Calls P f #[.func (.func g) #[] #[.pointer (some ⟨Bm,0,none⟩)]] w fun e w'=>∃ (v:Value) (ss:List Int),e=.returned v∧ss.Perm (intKeys D0) ∧
   w'.ownsRow w.heap.size tI 1 v ss.length ((ss.mergeSort (fun x y=>decide (x≤y))).map fun n=>.int .i64 n)∧(v=.slice none 0 0↔ss=[])∧Below w.heap.size w w') ∧
 ∀ (Bm:Nat) (w:World),Bm<w.heap.size→w.cell? ⟨Bm,0,none⟩=some (.map none) →
  Calls P f #[.func (.func g) #[] #[.pointer (some ⟨Bm,0,none⟩)]] w fun e w'=>e=.returned (.slice none 0 0)∧Below w.heap.size w w'
theorem Tu:∀ {es:List (AV×AV)}{ks:List Int}{l:List MapEntry},PP es=some ks→F1 ρ es l→l.map (·.key)=ks.map fun n=>Value.int .i64 n
  | [],ks,l,h,he=>by cases he;injection h with h;subst h;rfl
  | (k,v)::es,ks,l,h,he=>by
    cases he with
    | cons hk hv hs =>
      cases k<;>try (simp[PP]at h;done)
      rename_i q n
      cases q<;>try (simp[PP]at h;done)
      simp only[PP,A8G]at h
      obtain⟨r,h1,h2⟩:=h
      injection h2 with h2
      subst h2
      have:=Tu h1 hs
      generalize hkk:(_:MapEntry).key=kk at hk
      cases hk
      simp[this,hkk]
theorem K0(h:Below w.heap.size w w1):w.grownBy w1 none:=⟨h.os,h.tape,h.output,h.size,fun k hk _=>h.block k hk⟩
theorem Pi{f g:FuncId}{kt tI:TypeId}(hko:Ib P kt=true)(hu:P.underlying kt=some (.int .i64))(hc:Uq P f g kt tI)(h:DU P ρ s w)(hf:DB ρ s){aS:List AV}{as':Array Value}{v:AV}(hs:Gz g kt tI s aS=some (v,s1))(has:Cb ρ aS as'.toList):
    CallsIn Fence.wide 0 P f as' w (Ey P ρ s w v s1):=by
  refine callsIn_wide.2 ?_
  unfold Gz at hs
  split at hs<;>first | (cases hs;done) | skip
  rename_i f' i o
  obtain⟨hg,hs⟩:=CM hs
  simp only[A8G,A9W]at hs hg
  obtain⟨r,hrow,hs⟩:=hs
  obtain⟨hby,hs⟩:=CM hs
  simp only[A8G]at hs
  obtain⟨m,hm,hs⟩:=hs
  have e1:=A8R hg.1
  have e2:=A8R hg.2
  subst e1;subst e2
  obtain⟨l0⟩:=as'
  cases has with
  | cons h1 h2 =>
  cases h2
  cases h1 with
  | func ha hcap =>
  rename_i a' c'
  obtain⟨la⟩:=a'
  obtain⟨lc⟩:=c'
  cases ha
  cases hcap with
  | cons hp hn =>
  cases hn
  cases hp with
  | ptr hr =>
  rename_i rb
  have hok:Dr ρ w r rb:=h.obj i _ rb (DW hrow) hr
  have hoff:=hok.base hby
  obtain⟨m',hvm,hcell⟩:=Hj h hr hm
  rw[hoff]at hcell ⊢
  have hlt:=h.lt i rb hr
  cases m<;>try (simp at hs;done)
  rename_i mj
  have nilDone:∀ (hs:some ((.slice none 0 (some 0),s):AV×CO)=some (v,s1)) (w':World),Below w.heap.size w w'→Ey P ρ s w v s1 (.returned (.slice none 0 0)) w':=by
    intro hs w' hb
    injection hs with hs
    injection hs with q1 q2
    subst q1;subst q2
    obtain⟨g1,g2⟩:=h.grown (K0 hb)
    exact⟨ρ,.sliceNil,g1,g2⟩
  cases mj with
  | none =>
    cases hvm
    refine(hc.2 rb.b w hlt hcell).mono ?_
    rintro e w' ⟨rfl,hb⟩
    exact nilDone hs w' hb
  | some j =>
    simp only[A8G]at hs
    obtain⟨es,hes,ks,hks,hs⟩:=hs
    cases hvm with
    | map hrj =>
    rename_i rj
    obtain⟨ed,cd,d1,d2,⟨ld,d3,d4⟩,d5⟩:=(show Kn P ρ w kt es rj from h.obj j _ rj (IJ hes) hrj).ex
    have hkl:=Tu hks d4
    have hlenk:ks.length=ed.size:=by have:=congrArg List.length hkl;have:=d3.length_eq;simp at *;omega
    have hk6:ks.length≤1000000:=by
      cases ks with
      | nil=>simp
      | cons k ks =>
        simp only[Ln]at hs
        have:=(CM hs).1
        simpa[A8Q]using this
    have hmax:(1000000:Nat)≤maxLen:=by unfold maxLen;omega
    have od:=Vy d1 d2 d5 (by omega)
    have hsz:Maps.size (DataW.map ((ed.toList.map (WideElems.rg P kt Rv)).foldr DataW.insert []))=ed.size:=by
      show((ed.toList.map (WideElems.rg P kt Rv)).foldr DataW.insert []).length=_
      rw[(Go.WideShapes.sorted_perm _).length_eq]
      simp
    have hints:(intKeys (DataW.map ((ed.toList.map (WideElems.rg P kt Rv)).foldr DataW.insert []))).Perm ks:=by
      show(((ed.toList.map (WideElems.rg P kt Rv)).foldr DataW.insert []).map fun p=>Go.intOf p.1).Perm ks
      refine((Go.WideShapes.sorted_perm _).map _).trans ?_
      rw[List.map_map]
      have:((ld.map fun e=>Go.intOf (WideElems.rg P kt Rv e).1))=ks:=by
        have:∀ (L:List MapEntry) (K:List Int),(∀e∈L,∃l,keyOf P kt e.key=some l)→L.map (·.key)=K.map (fun n=>Value.int .i64 n)→(L.map fun e=>Go.intOf (WideElems.rg P kt Rv e).1)=K:=by
          intro L
          induction L with
          | nil=>intro K _ hK;cases K with | nil=>rfl | cons=>simp at hK
          | cons e L ih =>
            intro K hty hK
            cases K with
            | nil=>simp at hK
            | cons n K =>
              simp only[A8U,List.cons.injEq]at hK
              obtain⟨l,hl⟩:=hty e A8M
              rw[A8U,ih K (fun x hx=>hty x (A8J _ hx)) hK.2,pe hl]
              congr 1
              rw[hK.1]at hl
              simp only[keyOf,hu,mapKey]at hl
              split at hl
              · injection hl with hl;subst hl;rfl
              · cases hl
        exact this ld ks (fun e he=>d5 e (d3.mem_iff.1 he)) hkl
      rw[← this]
      exact d3.symm.map _
    refine(hc.1 rb.b rj.b _ _ w hlt hcell od (by rw[hsz];omega)).mono ?_
    rintro e w' ⟨v',ss,rfl,hperm,hrow',hnil,hb⟩
    have hss:ss.Perm ks:=hperm.trans hints
    cases ks with
    | nil =>
      have:ss=[]:=List.perm_nil.1 hss
      rw[hnil.2 this]
      exact nilDone hs w' hb
    | cons k ks =>
      simp only[Ln]at hs
      obtain⟨_,hs⟩:=CM hs
      injection hs with hs
      injection hs with q1 q2
      subst q1;subst q2
      have hne:ss≠[]:=fun e=>by subst e;exact absurd (List.nil_perm.1 hss) (by simp)
      rw[PN hss.symm]at hrow'
      have hl:ss.length=(k::ks).length:=hss.length_eq
      rcases hrow'.2 with⟨q,_⟩ | ⟨gb,cap,cur,rfl,hbase,hgb,r1,r2,r3,r4⟩
      · exact absurd (hnil.1 q) hne
      · rw[hl]at r1 r4 ⊢
        have hilen:(DS (k::ks)).length=(k::ks).length:=(EM _).length_eq
        generalize hn:(k::ks).length=n at r1 r4 hilen ⊢
        have hglt:gb<w'.heap.size:=(Array.getElem?_eq_some_iff.1 hgb).1
        obtain⟨g1,g2⟩:=h.grown (K0 hb)
        let rbn:RB:=⟨gb,0,cap,1⟩
        have hfn:=(hf s.next (A8H _)).1
        have hle:=Dc (rb:=rbn) hfn
        have hrok:Dr (EX ρ s.next rbn) w' { elem:=tI,sz:=1,n:=n,c:=CT.fill .leaf 0 ((DS (k::ks)).map Z3),spare:=true,mode:=.own,par:=none,bytes:=true } rbn:=by
          refine⟨?_,r1,rfl,(fun hh=>by cases hh),fun _=>⟨cur,hgb,by simp only[rbn];omega⟩,fun _=>rfl,(fun g hg=>by cases hg),fun p hp=>by cases hp⟩
          intro q u hq hu'
          simp only at hq
          simp only[CT.get_fill,A8T,A8V,A9S,Nat.sub_zero,A8c,hilen]at hu'
          rw[if_pos hq,A8j]at hu'
          obtain⟨x,hx,hx2⟩:=Option.map_eq_some_iff.1 hu'
          subst hx2
          refine⟨.int .i64 x,?_,.int _ _⟩
          have:(cur.toList.take (n * 1))[q]? = some (Value.int .i64 x):=by rw[r4,A8j,hx];rfl
          rw[A9P (by omega)]at this
          simp only[World.cell?,rbn,A8V,hgb]
          simpa using this
        refine⟨EX ρ s.next rbn,.sliceOpen (Cf _ _) (Nat.one_pos) r1 (by simp[rbn]) (by simp[rbn]),⟨?_,?_,?_,?_⟩,?_⟩
        · intro x ox rx hx hrx
          rw[DC]at hx
          by_cases e:x=s.next
          · subst e
            rw[if_pos rfl]at hx
            injection hx with hx
            rw[Cf]at hrx
            injection hrx with hrx
            subst hx;subst hrx
            exact hrok
          · rw [if_neg e] at hx
            rw[CZ rbn e]at hrx
            exact(g1.obj x ox rx hx hrx).mono hle rfl
        · intro x rx hrx
          by_cases e:x=s.next
          · subst e
            rw[Cf]at hrx
            injection hrx with hrx
            subst hrx
            exact hglt
          · rw[CZ rbn e]at hrx
            exact g1.lt x rx hrx
        · intro x y ox oy rx ry hxy hx hy hrx hry hbb hw
          rw[DC]at hx hy
          by_cases ex:x=s.next
          · subst ex
            have ey:y≠s.next:=fun e=>hxy e.symm
            rw[Cf]at hrx
            injection hrx with hrx
            subst hrx
            rw[CZ rbn ey]at hry
            have:=h.lt y ry hry
            simp only[rbn]at hbb
            omega
          · by_cases ey : y = s.next
            · subst ey
              rw[Cf]at hry
              injection hry with hry
              subst hry
              rw[CZ rbn ex]at hrx
              have:=h.lt x rx hrx
              simp only[rbn]at hbb
              omega
            · rw [if_neg ex] at hx
              rw[if_neg ey]at hy
              rw[CZ rbn ex]at hrx
              rw[CZ rbn ey]at hry
              exact g1.sep x y ox oy rx ry hxy hx hy hrx hry hbb hw
        · intro x ox g hx hgo
          rw[DC]at hx
          by_cases e:x=s.next
          · subst e;exact⟨_,Cf _ _⟩
          · rw[if_neg e]at hx
            obtain⟨r',hr'⟩:=h.glb x ox g hx hgo
            exact⟨r',hle _ _ hr'⟩
        · refine ⟨hle, ?_, by simp [newObj], hb.size, hb.os, hb.tape, hb.output, fun b hb' _ => hb.block b hb', ?_, ?_, fun x r hx h0 => ?_, fun x ox r hx h0 => ?_⟩
          · intro x hx hxr
            have:x≠s.next:=by simp[newObj]at hxr;omega
            rw[CZ rbn this];exact hx
          · rintro b ⟨x, ox, rx, hx, hw, hrx, rfl⟩
            rw[DC]at hx
            by_cases e:x=s.next
            · subst e
              rw[Cf]at hrx
              injection hrx with hrx
              subst hrx
              exact .inr hbase
            · rw [if_neg e] at hx
              rw[CZ rbn e]at hrx
              exact .inl ⟨x,ox,rx,hx,hw,hrx,rfl⟩
          · intro x _ hx
            rw[DC,if_neg (by simp[newObj]at hx;omega)]
          · by_cases e : x = s.next
            · subst e;rw[Cf]at hx;injection hx with hx;subst hx;exact .inl hbase
            · rw[CZ rbn e,h0]at hx;cases hx
          · rw[DC]at hx
            by_cases e:x=s.next
            · subst e;rw[hf s.next (A8H _) |>.1]at h0;cases h0
            · rw[if_neg e]at hx;exact⟨ox,hx⟩
end
end
end Go.Proofs.YtoaaclpjkelofaaGreatDoor.Am
set_option linter.all false
set_option maxRecDepth 16000
namespace Go.Proofs.YtoaaclpjkelofaaGreatDoor.Am
open Go Go.Proofs
noncomputable section
open Tryz
abbrev Ent:=Int×Rat×AV
theorem Sf(k:Int):E3 prog 3 (iv k)=D7 .i64 k:=by kernel_rfl
section
variable{s:CO}{mi:Nat}{T:List Ent}{n:Int}
end
theorem Ff:prog.follows .mixedOrders=true:=by kernel_rfl
theorem Er:SF prog=true:=by kernel_rfl
section
variable{ρ:DV}{s:CO}{w:World}
end
end
end Go.Proofs.YtoaaclpjkelofaaGreatDoor.Am
set_option linter.all false
set_option maxRecDepth 16000
namespace Go.Proofs.YtoaaclpjkelofaaGreatDoor.Am
open Go Go.Proofs Go.RowKit
noncomputable section
open Tryz
theorem A5b:uU prog 53 3:=by
 refine⟨fun bd bs nd ns Dd Ds w hd hs hne hroom=>AnyX.maps_Copy (ρ:=KA) Xb (Go.Maps.int_keyed underlying3) Rv bd bs nd ns Dd Ds w hd hs hne hroom,fun pd w=>AnyX.maps_Copy_nil (ρ:=KA) Xb pd w⟩
theorem WE(m:Nat):AnyZI.SortsIn prog LE Fence.wide m:=
  ⟨fun blk off cap ss W hH hblk hsz=>callsIn_wide.2 (AnyM.slices_Sort_int NV blk off cap ss W hH hblk hsz),
   fun p cap W=>callsIn_wide.2 (AnyM.slices_Sort_int_none NV p cap W)⟩
theorem p7:Uq prog 32 217 3 3:=by
  refine⟨fun Bm b nn D0 w hBm hm hown hsz=>?_,fun Bm w hBm hm=>?_⟩
  · have hseq := AnyZI.keys_gives (ρ := KB)           { Xc       with } Fence.wide 2 trivial rfl (by omega) Bm b nn D0 w hBm hm hown
    have cS:=AnyZI.sorted_in KD Fence.wide 5 trivial trivial trivial trivial rfl (by omega) (WE _) (enters_of func73 (by kernel_rfl) rfl) 217 #[.pointer (some ⟨Bm,0,none⟩)] trivial (enters_of func217 (by kernel_rfl) rfl) _ _ (A8Z hsz (by unfold maxLen;omega)) (by omega) _ hseq
    exact callsIn_wide.1 cS
  · have hseq := AnyZI.keys_gives_nil (ρ := KB)           { Xc       with } Fence.wide 2 trivial rfl Bm w hBm hm
    have cS:=AnyZI.sorted_in KD Fence.wide 5 trivial trivial trivial trivial rfl (by omega) (WE _) (enters_of func73 (by kernel_rfl) rfl) 217 #[.pointer (some ⟨Bm,0,none⟩)] trivial (enters_of func217 (by kernel_rfl) rfl) _ 0 (A8T _) (by omega) _ hseq
    refine(callsIn_wide.1 cS).mono ?_
    rintro e w' ⟨v,ss,rfl,hS,_,hnil,hb⟩
    rw[hnil.2 hS]
    exact⟨rfl,hb⟩
theorem p8:Uq prog 32 74 3 3:=by
  refine⟨fun Bm b nn D0 w hBm hm hown hsz=>?_,fun Bm w hBm hm=>?_⟩
  · have hseq := AnyZI.keys_gives (ρ := KC)           { Xd       with } Fence.wide 2 trivial rfl (by omega) Bm b nn D0 w hBm hm hown
    have cS:=AnyZI.sorted_in KD Fence.wide 5 trivial trivial trivial trivial rfl (by omega) (WE _) (enters_of func73 (by kernel_rfl) rfl) 74 #[.pointer (some ⟨Bm,0,none⟩)] trivial (enters_of func74 (by kernel_rfl) rfl) _ _ (A8Z hsz (by unfold maxLen;omega)) (by omega) _ hseq
    exact callsIn_wide.1 cS
  · have hseq := AnyZI.keys_gives_nil (ρ := KC)           { Xd       with } Fence.wide 2 trivial rfl Bm w hBm hm
    have cS:=AnyZI.sorted_in KD Fence.wide 5 trivial trivial trivial trivial rfl (by omega) (WE _) (enters_of func73 (by kernel_rfl) rfl) 74 #[.pointer (some ⟨Bm,0,none⟩)] trivial (enters_of func74 (by kernel_rfl) rfl) _ 0 (A8T _) (by omega) _ hseq
    refine(callsIn_wide.1 cS).mono ?_
    rintro e w' ⟨v,ss,rfl,hS,_,hnil,hb⟩
    rw[hnil.2 hS]
    exact⟨rfl,hb⟩
def Lr(a b:Gl):Gl:=fun f xs s=>match a f xs s with
 | some p=>some p
 | none=>b f xs s
theorem EW{P:Program}{a b:Gl}(ha:Du P a)(hb:Du P b):Du P (Lr a b):=by
 intro ρ s w f xs v s1 xs' hc hi hf hx
 unfold Lr at hc
 cases h:a f xs s with
 | some p=>rw[h]at hc;injection hc with hc;subst hc;exact ha ρ s w f xs v s1 xs' h hi hf hx
 | none=>rw[h]at hc;exact hb ρ s w f xs v s1 xs' hc hi hf hx
def TJ (g:FuncId) (a:List AV→CO→Option (AV×CO)):Gl:=fun f xs s=>bif Nat.beq f g then a xs s else none
theorem GR{P:Program}{g:FuncId}{a:List AV→CO→Option (AV×CO)}(h:∀ρ s w xs v s1 xs',a xs s=some (v,s1)→DU P ρ s w→DB ρ s→Cb ρ xs xs'.toList →
  (∃fn c,P.funcs[g]? = some fn∧fn.body=some c)∧CallsIn Fence.wide 0 P g xs' w (Ey P ρ s w v s1)):Du P (TJ g a):=by
 intro ρ s w f xs v s1 xs' hc hi hf hx
 unfold TJ at hc
 cases h2:Nat.beq f g with
 | true =>
  rw[h2]at hc
  have:=A8R h2
  subst this
  exact h ρ s w xs v s1 xs' hc hi hf hx
 | false=>rw[h2]at hc;cases hc
def tH:Gl:=Lr (TJ 53 fun xs s=>Jx 3 s xs) (Lr (TJ 32 fun xs s=>Gz 217 3 3 s xs)
 (TJ 32 fun xs s=>Gz 74 3 3 s xs))
theorem dW:Du prog tH:=
 EW (GR fun ρ s w xs v s1 xs' hc hi hf ha=>⟨⟨_,_,func53,rfl⟩,fA (by kernel_rfl) A5b hi hc ha⟩)
  (EW (GR fun ρ s w xs v s1 xs' hc hi hf ha=>⟨⟨_,_,func32,rfl⟩,Pi (by kernel_rfl) underlying3 p7 hi hf hc ha⟩)
   (GR fun ρ s w xs v s1 xs' hc hi hf ha=>⟨⟨_,_,func32,rfl⟩,Pi (by kernel_rfl) underlying3 p8 hi hf hc ha⟩))
section
variable{ρ:DV}{s:CO}{w:World}
end
end
end Go.Proofs.YtoaaclpjkelofaaGreatDoor.Am
set_option linter.all false
set_option maxRecDepth 100000
namespace Go.Proofs.YtoaaclpjkelofaaGreatDoor.Am
open Go Go.Proofs
noncomputable section
open Tryz
theorem A0q:DZ prog 108=some 2:=by kernel_rfl
theorem A5t:FV prog 108=some (.agg [(.ptr none),(.slice none 0 (some 0))]):=by kernel_rfl
theorem dL(i o:Nat):CL prog 108 (.ptr (some (i,o))) 0=some (.ptr (some (i,o+0))):=by kernel_rfl
theorem dM(i o:Nat):CL prog 108 (.ptr (some (i,o))) 1=some (.ptr (some (i,o+1))):=by kernel_rfl
theorem A6c:DZ prog 22=some 1:=by kernel_rfl
theorem A4C:GG prog 22=some false:=by kernel_rfl
theorem A5p:DZ prog 106=some 1:=by kernel_rfl
theorem uX:GG prog 106=some false:=by kernel_rfl
theorem A5z:DZ prog 5=some 1:=by kernel_rfl
theorem by5:Fe prog 5=some 1:=by kernel_rfl
theorem A6F:GG prog 5=some false:=by kernel_rfl
def xE:List CK:=[Bo Bi [Aw] 1]
def xF:List CK:=[Bo (Bb 108) [] 2]
def xG:List CK:=[Bo Bi [AC] 4,Bo (Bc 30) [AI] 5,Bo Bi [AE] 6]
def lR:List CK:=[Bo (BX .lss 3) [AJ,AK] 7]
def xH:List CK:=[Bn (BY 30) [AI,AJ],Bn (BT 3) [AA],Bo Bi [AA] 3]
def xI:List CK:=[Bn (Bh 59) [AG],Bn (BX .add 9) [AA,BI],Bn (Bh 58) [AD,AA]]
def xJ:List CK:=[Bn (BX .add 3) [AJ,AL],Bo Bi [AA] 6]
def Ww:Ck:=(.seq (.ops lR) (.seq (.cond (.var 7)
 .skip
 (.exit 0)) (.seq (.block 1 (.seq (.ops xH) (.ops xI))) (.ops xJ))))
def xK:List CK:=[Bn (Bh 60) [AD],Bo Bi [AA] 1]
def A7M:Cr:=⟨1,8,(.seq (.ops xE) (.seq (.ops xF) (.seq (.seq (.ops xG) (.block 0 (.loop Ww))) (.seq (.ops xK) .ret)))),[((.var 1),none)]⟩
def xn:List CK:=[Bo Bi [AE] 2,Bo Bi [(.const .nilIface)] 3]
def xp:List CK:=[Bn (Bh 95) [AC]]
def xr:List CK:=[Bn Bl [AC],Bn (BU 108 1) [AA],Bn (BT 22) [AA],Bn (Bf 22 9) [AA,AB],Bn Bl [AC],Bn (BU 108 1) [AA],Bn (BZ 22) [AA,AH]]
def xv:List CK:=[Bn (Bc 9) [AB],Bo Bi [AA] 2,Bo Bi [(.const .nilIface)] 3]
def A7U:Cr:=⟨2,4,(.seq (.ops xn) (.seq (.ops xp) (.seq (.ops xr) (.seq (.ops xv) .ret)))),[((.var 2),none),((.var 3),none)]⟩
def mP:List CK:=[Bn Bl [AC],Bn (BU 108 0) [AA],Bn (BT 106) [AA],Bo (BX .eql 106) [AA,AY] 1]
def zj:List CK:=[Bn (.r1 (fun s x=>EP prog s 106 164 x)) [AC],Bn (.e Vs) [AA],Bn (.r1 (fun s x=>EP prog s 164 106 x)) [AA],Bn Bl [AC],Bn (BU 108 0) [AA],Bn (BZ 106) [AA,AH]]
def zk:List CK:=[Bn Bl [AC],Bn (BU 108 0) [AA],Bn (BT 106) [AA],Bo (.r (fun s=>GA (KL prog s true 106))) [AA,AC] 2]
def A6Q:Cr:=⟨1,3,(.seq (.ops mP) (.cond (.var 1)
 (.ops zj)
 (.seq (.ops zk) (.cond (.var 2)
 .never
 .skip)))),[]⟩
def xw:List CK:=[Bo Bi [Aw] 1]
def xx:List CK:=[Bn Bl [AC],Bn (BU 108 1) [AA],Bn (BT 22) [AA],Bn (.p (fun l=>match l with | [x]=>W9 x | _=>none)) [AA],Bn Bl [AC],Bn (BU 108 1) [AA],Bn (BT 22) [AA],Bn (Bc 22) [AA],Bn (.e (fun s l=>Uh prog s [144,3] l)) [AO,AA],Bo Bi [AA] 1]
def A7V:Cr:=⟨1,2,(.seq (.ops xw) (.seq (.ops xx) .ret)),[((.var 1),none)]⟩
theorem A1p:CY prog 42=some A7M:=by kernel_rfl
theorem A1x:CY prog 58=some A7U:=by kernel_rfl
theorem A2T:CY prog 95=some A6Q:=by kernel_rfl
theorem A1y:CY prog 60=some A7V:=by kernel_rfl
end
end Go.Proofs.YtoaaclpjkelofaaGreatDoor.Am
set_option linter.all false
set_option maxHeartbeats 1000000
set_option maxRecDepth 16000
namespace Go.Proofs.YtoaaclpjkelofaaGreatDoor.Am
open Go Go.Proofs
noncomputable section
open Tryz
def u8v(n:Nat):AV:=.int .u8 (n:Int)
def bs(l:List Nat):List AV:=l.map u8v
section
variable{E:Dw}{s:CO}
end
end
end Go.Proofs.YtoaaclpjkelofaaGreatDoor.Am
set_option linter.all false
namespace Go.Proofs.YtoaaclpjkelofaaGreatDoor.Am
open Go Go.Proofs Go.RowKit
noncomputable section
open Tryz
def Mb(n:Nat):List Nat:=bif Nat.blt n 10 then [48+n]else [48+n / 10,48+n % 10]
theorem fT(n:Nat)(h:n<100):Mb n=(Go.Lib.decDigits n).map fun(x:UInt8)=>x.toNat:=by
 have e:∀k,k<10→(UInt8.ofNat (48+k)).toNat=48+k:=fun k hk=>by
  show(48+k) % 256=48+k
  omega
 unfold Mb
 by_cases h1:n<10
 ·rw[Go.Lib.decDigits_one h1,show Nat.blt n 10=true from by simpa[A8Y]using h1,cond_true]
  simp only[A8U,List.map_nil,e n h1]
 ·rw[Go.Lib.decDigits_two h1 h,show Nat.blt n 10=false from by cases hb:Nat.blt n 10 with | false=>rfl | true=>exact absurd (by simpa[A8Y]using hb) h1,cond_false]
  simp only[A8U,List.map_nil,e (n / 10) (by omega),e (n % 10) (by omega)]
def Vc(s:CO):List AV→Option (AV×CO)
 | [.int .i64 (.ofNat n)]=>CU (Nat.blt n 100) (JI (Mb n) fun t=>some (.str t,s))
 | _=>none
section
variable{ρ:DV}{s s1:CO}{w:World}
theorem Tr(h:DU prog ρ s w){ys:List AV}{as':Array Value}{v:AV}(hs:Vc s ys=some (v,s1))(has:Cb ρ ys as'.toList):CallsIn Fence.wide 0 prog 59 as' w (Ey prog ρ s w v s1):=by
 refine callsIn_wide.2 ?_
 unfold Vc at hs
 split at hs<;>first | (cases hs;done) | skip
 rename_i n
 obtain⟨hg,hs⟩:=CM hs
 rw[Ez]at hs
 injection hs with hs
 injection hs with q1 q2
 subst q1;subst q2
 obtain⟨l0⟩:=as'
 cases has with
 | cons h1 h2 =>
 cases h2
 cases h1
 have hn:n<100:=by simpa[A8Y]using hg
 refine Calls.mono (Any.strconv_Itoa_small oK n hn w) ?_
 rintro e w' ⟨rfl,rfl⟩
 refine⟨ρ,.str ?_,h,Fr.refl _ _ _⟩
 rw[fT n hn]
end
section
variable{ρ:DV}{s:CO}{w:World}
theorem nW{N:Gl}(hN:Du prog N){f:FuncId}{xs:List AV}{xs':Array Value}(h:DU prog ρ s w)(hf:DB ρ s)(hxs:Cb ρ xs xs'.toList){v:AV}(hv:JZ v=true)(hw:WF ⟨prog,N⟩ f xs (fun u s'=>u=v) (frz s.next s.heap)):
  (∃fn c,prog.funcs[f]? = some fn∧fn.body=some c)∧CallsIn Fence.wide 0 prog f xs' w (Ey prog ρ s w v s):=by
 obtain⟨n,p,hrun,hK⟩:=hw
 have hcall:=(A3r Ff (EI Er) rfl hN n).call ρ (frz s.next s.heap) w f xs p.1 p.2 xs' hrun (h.frz _) hf.frz hxs
 refine⟨hcall.1,CallsIn.mono hcall.2 ?_⟩
 intro e w' he
 cases e with
 | panicked c=>exact he.elim
 | outgrown=>exact he.elim
 | returned v' =>
  obtain⟨ρ',k1,k2,k3⟩:=he
  obtain⟨g1,g2⟩:=h.grown (w1:=w') ⟨k3.os,k3.tape,k3.output,k3.size,fun b hb _=>k3.keep b hb (OV prog _ _ b)⟩
  rw[hK]at k1
  exact⟨ρ,Ek hv k1,g1,g2⟩
end
end
end Go.Proofs.YtoaaclpjkelofaaGreatDoor.Am
