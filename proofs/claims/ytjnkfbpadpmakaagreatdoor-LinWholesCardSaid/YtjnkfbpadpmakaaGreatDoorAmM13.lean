/- Package litmusref04, walked: a variable and its coefficient are put into a sum; conditions: none. -/
import Derived.Test.YtjnkfbpadpmakaaGreatDoorAmM12
import Derived.Test.YtjnkfbpadpmakaaGreatDoorAmM11
import Derived.Test.YtjnkfbpadpmakaaGreatDoorAmM10
set_option linter.unusedVariables false
set_option linter.unusedSimpArgs false
set_option maxRecDepth 16000
namespace Go.Proofs.YtjnkfbpadpmakaaGreatDoor.Am
open Go Go.Proofs
noncomputable section
theorem NZ{s:AE}{a:Option (Nat×Nat)}{cs:List AV}{p:Nat}{o:BD}(h:AU s.next s a cs)(ha:∀i q,a=some (i,q)→p<i):AU (setObj s p o).next (setObj s p o) a cs:=fun j u hj=>by
 obtain⟨i,q,rfl,hi,g⟩:=h j u hj
 exact⟨i,q,rfl,hi,by rw[B6 (Wx _ (by have:=ha i q rfl;omega))];exact g⟩
theorem RH{s:AE}{sz n:Nat}{a:Option (Nat×Nat)}{cap:Option Nat}{p:Nat}{o:BD}(h:EC sz s a cap n)(ha:∀i q,a=some (i,q)→p<i):EC sz (setObj s p o) a cap n:=by
 rcases h with h | ⟨h1,i,q,r,rfl,h4,h5,h6⟩
 ·exact .inl h
 ·exact .inr ⟨h1,i,q,r,rfl,h4,by rw[Wx _ (by have:=ha i q rfl;omega)];exact h5,h6⟩
theorem Cg.set{s:AE}{a:Option (Nat×Nat)}{cs:List Rat}{cells:List AV}{p e:Nat}{sp:Bool}{cs0:List AV}{o:BD}(h:Cg s a cs cells)(hg:s.heap.get p=some (R e 0 sp cs0))(hc:cs0.all Kd=true)(ha:∀i q,a=some (i,q)→p<i):Cg (setObj s p o) a cs cells:=
 ⟨h.len,NZ h.rd ha,fun i q hi=>(h.rat i q hi).box hg hc⟩
theorem LP.set{s:AE}{av ac:Option (Nat×Nat)}{capv capc:Option Nat}{cells:List AV}{vs:List Int}{cs:List Rat}{p e:Nat}{sp:Bool}{cs0:List AV}{o:BD}(h:LP s av capv ac capc cells vs cs)(hg:s.heap.get p=some (R e 0 sp cs0))(hc:cs0.all Kd=true)(ha:∀i q,av=some (i,q)→p<i)(hb:∀i q,ac=some (i,q)→p<i):LP (setObj s p o) av capv ac capc cells vs cs:=
 ⟨NZ h.vc ha,h.vi,RH h.vz ha,h.rs.set hg hc hb,RH h.cz hb⟩
theorem LC.set{bb:Nat}{s:AE}{v:AV}{C:Rat}{L:List (Int×Rat)}{p e:Nat}{sp:Bool}{cs0:List AV}{o:BD}(h:LC bb s v C L)(hp:p<bb)(hg:s.heap.get p=some (R e 0 sp cs0))(hc:cs0.all Kd=true):LC bb (setObj s p o) v C L:=by
 obtain⟨x,a,n,c,b,m,d,av,capv,ac,capc,cells,h1,h2,h3,h4,h5⟩:=h
 exact⟨x,a,n,c,b,m,d,av,capv,ac,capc,cells,h1,h2.box hg hc,h3.set hg hc (fun i q h=>xi hp (h4 i q h)) (fun i q h=>xi hp (h5 i q h)),h4,h5⟩
structure MO(s:AE)(p:Nat)(x:Bool)(a:Option (Nat×Nat))(n:Nat)(c:Option Nat)(b:Option (Nat×Nat))(m:Nat)(d:Option Nat)(av:Option (Nat×Nat))(cv:Option Nat)(ac:Option (Nat×Nat))(cc:Option Nat)(cells:List AV)(C:Rat)(vs:List Int)(cs:List Rat):Prop where
 box:s.heap.get p=some (BL x (.slice a n c) (.slice b m d) (.slice av vs.length cv) (.slice ac cs.length cc))
 lt:p<s.next
 hC:QC s (.agg [.bool x,.slice a n c,.slice b m d]) C
 lp:LP s av cv ac cc cells vs cs
 la:∀i q,av=some (i,q)→p<i
 lc:∀i q,ac=some (i,q)→p<i
theorem MO.old{s s':AE}{p:Nat}{x:Bool}{a:Option (Nat×Nat)}{n:Nat}{c:Option Nat}{b:Option (Nat×Nat)}{m:Nat}{d:Option Nat}{av:Option (Nat×Nat)}{cv:Option Nat}{ac:Option (Nat×Nat)}{cc:Option Nat}{cells:List AV}{C:Rat}{vs:List Int}{cs:List Rat}
  (h:MO s p x a n c b m d av cv ac cc cells C vs cs) (o:Af s.next s s'):MO s' p x a n c b m d av cv ac cc cells C vs cs:=
 ⟨(o.2 p h.lt).trans h.box,xi h.lt o.1,h.hC.old o,h.lp.old o,h.la,h.lc⟩
theorem gR:Ad Tryz.prog 28 0 (zipIdx [] [])=some (R 26 3 false []):=by kernel_rfl
theorem WO{v:AV}{a:Option (Nat×Nat)}{n:Nat}{cap:Option Nat}{p:Nat}(e:v=.slice a n cap)(h:∀j,By v=some j→p<j):∀i q,a=some (i,q)→p<i:=fun i q h'=>h i (by rw[e,h'];rfl)
section
variable{E:CU}{s:AE}
theorem jg      {p : Nat} {x : Bool} {a : Option (Nat × Nat)} {n : Nat} {c : Option Nat} {b : Option (Nat × Nat)} {m : Nat} {d : Option Nat} {av : Option (Nat × Nat)} {cv : Option Nat} {ac : Option (Nat × Nat)} {cc : Option Nat} {cells : List AV} {C : Rat} {vs : List Int} {cs : List Rat}
    (h:MO s p x a n c b m d av cv ac cc cells C vs cs) {k:Nat} (hk:k≤vs.length) (hvl:vs.length≤1000) {v:Int} (hv:i64 v) {y0 y1 y2 y4 y5 y7 y8 y9 y10 y12 y13 y14 y15 y16 y17 y18:AV} {K:List AV→AE→Prop}
    (hK:∀s' av' cv',s.next≤s'.next→(∀j,j<s.next→j≠p→s'.heap.get j=s.heap.get j)→MO s' p x a n c b m d av' cv' ac cc cells C (vs.take k++v::vs.drop k) cs→K [y0,y1,y2,.ptr (some (p,0)),y4,y5,iv v,y7,y8,y9,y10,iv (k:Int),y12,y13,y14,y15,y16,y17,y18] s'):
    Qb E Tt K [] [y0,y1,y2,.ptr (some (p,0)),y4,y5,iv v,y7,y8,y9,y10,iv (k:Int),y12,y13,y14,y15,y16,y17,y18] s:=by
  have hlt:=h.lt
  obtain⟨n1,o1,g1⟩:=CC s (R 3 1 false [])
  simp only[Tt,gP,Xe,Qb,Qc,Qd,Qf,Qh,Qj,Qk,Qm,Qo,true_and,and_true,Qr,Qs,Qt,Qv,Yc]
  generalize newObj s (R 3 1 false [])=s1 at *
  have h1:=h.old o1
  have l1:=AI (P:=Tryz.prog) (t:=27) (o:=0+3) Fc h1.box rfl
  have cut1:=Na Tryz.underlying27 OJ (by decide) h1.lp.vz hk
  obtain⟨n2,o2,g2⟩:=CC s1 (R 3 1 false [iv v])
  simp only[l1,Cz,cut1,Se,Xe,Qm,Yc]
  generalize newObj s1 (R 3 1 false [iv v])=s2 at *
  have o02:Af s.next s s2:=o1.trans (o2.mono o1.1)
  have h2:=h.old o02
  have l2:=AI (P:=Tryz.prog) (t:=27) (o:=0+3) Fc h2.box rfl
  have cut2:=Jt Tryz.underlying27 OJ (by decide) h2.lp.vz hk
  have g1':s2.heap.get s.next=some (R 3 1 false []):=(o2.2 s.next (by omega)).trans g1
  have hd:=CM.row (n:=0) (s:=s2) (by omega:s.next<s2.next) g1' rfl
  have hct:AU s2.next s2 av ((vs.take k).map iv):=by rw[zh];exact IL h2.lp.vc k
  obtain⟨v3,s3,O3,happ3,hd3,hn3,hf3,hO3,hs3⟩:=Jh (cap:=cv) hd hct (by rw[xz];omega:(vs.take k).length=k) (by omega) (by omega)
  have o23:Af s2.next s2 s3:=⟨hn3,fun j hj=>hf3 j hj (by simp)⟩
  have h3:=h2.old o23
  have l3:=AI (P:=Tryz.prog) (t:=27) (o:=0+3) Fc h3.box rfl
  have cut3:=Jt Tryz.underlying27 OJ (by decide) h3.lp.vz hk
  simp only[l2,cut2,happ3,HW,C7,l3,cut3,BY,BJ,Qh,Qj,Qk,Qm,true_and,and_true,Qr,Qs]
  have g2':s3.heap.get s1.next=some (R 3 1 false [iv v]):=(o23.2 s1.next (by omega)).trans g2
  obtain⟨v4,s4,O4,happ4,hd4,hn4,hf4,hO4,hs4⟩:=Jh (l:=[v]) (cap:=some 1) hd3 (Hb g2' (by omega)) (by rfl:[v].length=1) (by omega) (by omega)
  have o24:Af s2.next s2 s4:=⟨by omega,fun j hj=>by
    rw[hf4 j (by omega) (fun h'=>by rcases hO3 j h' with h' | h';(· simp at h');omega),o23.2 j hj]⟩
  have h4:=h2.old o24
  have l4:=AI (P:=Tryz.prog) (t:=27) (o:=0+3) Fc h4.box rfl
  have cut4:=Jt Tryz.underlying27 OJ (by decide) h4.lp.vz hk
  simp only[happ4,l4,cut4,BY,BJ,Qm,true_and,and_true]
  have hcd:AU s4.next s4 (qg av cv k 1) ((vs.drop k).map iv):=by
    have:=R8 (sz:=1) h4.lp.vz hk h4.lp.vc (by simp)
    rw[xj]at this
    rw[List.map_drop];exact this
  obtain⟨v5,s5,O5,happ5,hd5,hn5,hf5,hO5,hs5⟩:=Jh (cap:=tt cv k) hd4 hcd (by rw[yL]:(vs.drop k).length=vs.length - k) (by omega) (by omega)
  have o25:Af s2.next s2 s5:=⟨by omega,fun j hj=>by
    rw[hf5 j (by omega) (fun h'=>by
      rcases hO4 j h' with h' | h'
      · rcases hO3 j h' with h' | h'
        · simp at h'
        · omega
      · omega),o24.2 j hj]⟩
  have h5:=h2.old o25
  have hsl:∀j,By v5=some j→p<j:=fun j hj=>by
    rcases hs5 j hj with hj | hj
    · rcases hs4 j hj with hj | hj
      · rcases hs3 j hj with hj | hj
        · injection hj with hj;omega
        · omega
      · omega
    · omega
  obtain⟨a5,c5,e5,hc5⟩:=hd5.cells
  have hz5:=hd5.capZ a5 c5 e5
  have hlo5:=WO e5 hsl
  have hlen:0+k+1+(vs.length - k)=(vs.take k++v::vs.drop k).length:=by
    rw[xp,yU,xz,yL];omega
  rw[hlen]at e5 hz5
  subst e5
  have st:=Bn (P:=Tryz.prog) (t:=27) (o:=0+3) (v:=.slice a5 (vs.take k++v::vs.drop k).length c5) vM h5.box (by simp) rfl
  simp only[happ5,st,Xy,Za,Qm]
  refine hK _ a5 c5 (by show s.next≤s5.next;omega) (fun j hj hp=>?_) ?_
  · rw[Wx _ hp,o25.2 j (by omega),o02.2 j hj]
  · have hvs:([]++(vs.take k).map iv++[v].map iv++(vs.drop k).map iv)=(vs.take k++v::vs.drop k).map iv:=by simp
    rw[hvs]at hc5
    have hlp:LP s5 a5 c5 ac cc cells (vs.take k++v::vs.drop k) cs:=⟨hc5,fun n hn=>by
      rcases zx.1 hn with hn | hn
      · exact h.lp.vi n (A0K hn)
      · rcases List.mem_cons.1 hn with rfl | hn
        · exact hv
        · exact h.lp.vi n (A0B hn),hz5,h5.lp.rs,h5.lp.cz⟩
    exact⟨by rw[Ww];rfl,by show p<s5.next;omega,h5.hC.box h5.box rfl,hlp.set h5.box rfl hlo5 h.lc,hlo5,h.lc⟩
end
theorem Xf{α:Type}(l:List α)(i k:Nat):((l.drop (k * 3)).drop (i * 3)).take 3=(l.drop ((k+i) * 3)).take 3:=by
 rw[zC,show k * 3+i * 3=(k+i) * 3 by omega]
theorem Xi{α:Type}(l:List α){i k:Nat}(h:i<k):((l.take (k * 3)).drop (i * 3)).take 3=(l.drop (i * 3)).take 3:=by
 rw[List.drop_take,List.take_take,yv (by omega)]
theorem Cg.take{s:AE}{a:Option (Nat×Nat)}{cs:List Rat}{cells:List AV}(h:Cg s a cs cells){k:Nat}(hk:k≤cs.length):Cg s a (cs.take k) (cells.take (k * 3)):=by
  have hl:=h.len
  refine⟨by rw[xz,xz];omega,IL h.rd _,fun i q hi=>?_⟩
  rw[zp]at hi
  split at hi
  · rename_i hik
    rw[Xi _ hik]
    exact h.rat i q hi
  · cases hi
theorem Cg.drop{s:AE}{a:Option (Nat×Nat)}{cap:Option Nat}{cs:List Rat}{cells:List AV}(h:Cg s a cs cells)(hz:EC 3 s a cap cs.length){k:Nat}(hk:k≤cs.length):Cg s (qg a cap k 3) (cs.drop k) (cells.drop (k * 3)):=by
 have hl:=h.len
 refine⟨by rw[yL,yL];omega,R8 hz hk h.rd hl,fun i q hi=>?_⟩
 rw[yn]at hi
 rw[Xf]
 exact h.rat (k+i) q hi
theorem N7{s:AE}{cs ds:List Rat}{ce de:List AV}(h1:ce.length=cs.length * 3)(h2:∀ (i:Nat)(q:Rat),cs[i]? = some q→QC s (.agg ((ce.drop (i * 3)).take 3)) q)(h3:∀ (i:Nat)(q:Rat),ds[i]? = some q→QC s (.agg ((de.drop (i * 3)).take 3)) q):
    ∀ (i:Nat) (q:Rat),(cs++ds)[i]? = some q→QC s (.agg (((ce++de).drop (i * 3)).take 3)) q:=fun i q hi=>by
  rcases xf i cs.length with h | h
  · rw [yf                        h] at hi
    rw[A0I (by omega),A0N (by rw[yL];omega)]
    exact h2 i q hi
  · rw[yi h]at hi
    have e:(ce++de).drop (i * 3)=de.drop ((i - cs.length) * 3):=by
      rw[List.drop_append,yQ (by omega),zq,h1,show i * 3 - cs.length * 3=(i - cs.length) * 3 by omega]
    rw[e]
    exact h3 _ q hi
theorem Cg.one{s:AE}{i:Nat}(hi:i<s.next){x:Bool}{a b:Option (Nat×Nat)}{n m:Nat}{c d:Option Nat}(hg:s.heap.get i=some (R 26 3 false [.bool x,.slice a n c,.slice b m d])){q:Rat}(hq:QC s (.agg [.bool x,.slice a n c,.slice b m d]) q):Cg s (some (i,0)) [q] [.bool x,.slice a n c,.slice b m d]:=
 ⟨rfl,Hb hg hi,fun j r hj=>by
  match j with
  | 0=>injection hj with hj;subst hj;exact hq
  | j+1=>cases hj⟩
section
variable{E:CU}{s:AE}
theorem jf      {p : Nat} {x : Bool} {a : Option (Nat × Nat)} {n : Nat} {c : Option Nat} {b : Option (Nat × Nat)} {m : Nat} {d : Option Nat} {av : Option (Nat × Nat)} {cv : Option Nat} {ac : Option (Nat × Nat)} {cc : Option Nat} {cells : List AV} {C : Rat} {vs : List Int} {cs : List Rat}
    (h:MO s p x a n c b m d av cv ac cc cells C vs cs) {k:Nat} (hk:k≤cs.length) (hvl:cs.length≤1000) {p9:Nat} {x9:Bool} {a9 b9:Option (Nat×Nat)} {n9 m9:Nat} {c9 d9:Option Nat} {q:Rat} (g9:s.heap.get p9=some (BQ x9 (.slice a9 n9 c9) (.slice b9 m9 d9))) (h9:p9<s.next) (hq:QC s (.agg [.bool x9,.slice a9 n9 c9,.slice b9 m9 d9]) q)
    {y0 y1 y2 y4 y5 y6 y7 y8 y10 y12 y13 y14 y15 y16 y17 y18:AV} {K:List AV→AE→Prop}
    (hK:∀s' ac' cc' cells',s.next≤s'.next→(∀j,j<s.next→j≠p→s'.heap.get j=s.heap.get j)→MO s' p x a n c b m d av cv ac' cc' cells' C vs (cs.take k++q::cs.drop k)→K [y0,y1,y2,.ptr (some (p,0)),y4,y5,y6,y7,y8,.ptr (some (p9,0)),y10,iv (k:Int),y12,y13,y14,y15,y16,y17,y18] s'):
    Qb E Tu K [] [y0,y1,y2,.ptr (some (p,0)),y4,y5,y6,y7,y8,.ptr (some (p9,0)),y10,iv (k:Int),y12,y13,y14,y15,y16,y17,y18] s:=by
  have hlt:=h.lt
  obtain⟨n1,o1,g1⟩:=CC s (R 26 3 false [])
  simp only[Tu,gR,Xe,Qb,Qc,Qd,Qf,Qh,Qj,Qk,Qm,Qo,true_and,and_true,Qr,Qs,Qt,Qv,Yc]
  generalize newObj s (R 26 3 false [])=s1 at *
  have h1:=h.old o1
  have l1:=AI (P:=Tryz.prog) (t:=28) (o:=0+4) Eb h1.box rfl
  have q1:=AT (P:=Tryz.prog) (t:=26) Bt A9 ((o1.2 p9 h9).trans g9) rfl
  have cut1:=Na Tryz.underlying28 A9 (by decide) h1.lp.cz hk
  obtain⟨n2,o2,g2⟩:=CC s1 (R 26 3 false [.bool x9,.slice a9 n9 c9,.slice b9 m9 d9])
  simp only[l1,q1,C0,cut1,JS,Xe,Qm,Yc]
  generalize newObj s1 (R 26 3 false [.bool x9,.slice a9 n9 c9,.slice b9 m9 d9])=s2 at *
  have o02:Af s.next s s2:=o1.trans (o2.mono o1.1)
  have h2:=h.old o02
  have l2:=AI (P:=Tryz.prog) (t:=28) (o:=0+4) Eb h2.box rfl
  have cut2:=Jt Tryz.underlying28 A9 (by decide) h2.lp.cz hk
  have g1':s2.heap.get s.next=some (R 26 3 false []):=(o2.2 s.next (by omega)).trans g1
  have hd:=CM.row (n:=0) (s:=s2) (by omega:s.next<s2.next) g1' rfl
  have hct:=h2.lp.rs.take hk
  obtain⟨v3,s3,O3,happ3,hd3,hn3,hf3,hO3,hs3⟩:=HX (cap:=cc) hd hct (by rw[xz];omega:(cs.take k).length=k) (by omega) (by omega)
  have o23:Af s2.next s2 s3:=⟨hn3,fun j hj=>hf3 j hj (by simp)⟩
  have h3:=h2.old o23
  have l3:=AI (P:=Tryz.prog) (t:=28) (o:=0+4) Eb h3.box rfl
  have q3:=AT (P:=Tryz.prog) (t:=26) Bt A9 ((o23.2 p9 (by omega)).trans ((o02.2 p9 h9).trans g9)) rfl
  have cut3:=Jt Tryz.underlying28 A9 (by decide) h3.lp.cz hk
  simp only[l2,cut2,happ3,HW,C7,l3,q3,cut3,BY,BJ,Cr,Qh,Qj,Qk,Qm,true_and,and_true,Qr,Qs]
  have g2':s3.heap.get s1.next=some (R 26 3 false [.bool x9,.slice a9 n9 c9,.slice b9 m9 d9]):=(o23.2 s1.next (by omega)).trans g2
  obtain⟨v4,s4,O4,happ4,hd4,hn4,hf4,hO4,hs4⟩:=HX (cap:=some 1) hd3 (Cg.one (by omega) g2' ((hq.old o02).old o23)) (by rfl:[q].length=1) (by omega) (by omega)
  have o24:Af s2.next s2 s4:=⟨by omega,fun j hj=>by
    rw[hf4 j (by omega) (fun h'=>by rcases hO3 j h' with h' | h';(· simp at h');omega),o23.2 j hj]⟩
  have h4:=h2.old o24
  have l4:=AI (P:=Tryz.prog) (t:=28) (o:=0+4) Eb h4.box rfl
  have cut4:=Jt Tryz.underlying28 A9 (by decide) h4.lp.cz hk
  simp only[happ4,l4,cut4,BY,BJ,Qm,true_and,and_true]
  have hcd:=h4.lp.rs.drop h4.lp.cz hk
  obtain⟨v5,s5,O5,happ5,hd5,hn5,hf5,hO5,hs5⟩:=HX (cap:=tt cc k) hd4 hcd (by rw[yL]:(cs.drop k).length=cs.length - k) (by omega) (by omega)
  have o25:Af s2.next s2 s5:=⟨by omega,fun j hj=>by
    rw[hf5 j (by omega) (fun h'=>by
      rcases hO4 j h' with h' | h'
      · rcases hO3 j h' with h' | h'
        · simp at h'
        · omega
      · omega),o24.2 j hj]⟩
  have h5:=h2.old o25
  have hsl:∀j,By v5=some j→p<j:=fun j hj=>by
    rcases hs5 j hj with hj | hj
    · rcases hs4 j hj with hj | hj
      · rcases hs3 j hj with hj | hj
        · injection hj with hj;omega
        · omega
      · omega
    · omega
  obtain⟨a5,c5,e5,hc5⟩:=hd5.cells
  have hz5:=hd5.capZ a5 c5 e5
  have hlo5:=WO e5 hsl
  have hlen:0+k+1+(cs.length - k)=(cs.take k++q::cs.drop k).length:=by
    rw[xp,yU,xz,yL];omega
  rw[hlen]at e5 hz5
  subst e5
  have st:=Bn (P:=Tryz.prog) (t:=28) (o:=0+4) (v:=.slice a5 (cs.take k++q::cs.drop k).length c5) kI h5.box (by simp) rfl
  simp only[happ5,st,Xy,Za,Qm]
  refine hK _ a5 c5 ([]++cells.take (k * 3)++[.bool x9,.slice a9 n9 c9,.slice b9 m9 d9]++cells.drop (k * 3)) (by show s.next≤s5.next;omega) (fun j hj hp=>?_) ?_
  · rw[Wx _ hp,o25.2 j (by omega),o02.2 j hj]
  · have hl := h.lp.rs.len
    have hrs:Cg s5 a5 (cs.take k++q::cs.drop k) ([]++cells.take (k * 3)++[.bool x9,.slice a9 n9 c9,.slice b9 m9 d9]++cells.drop (k * 3)):=by
      have t1:=h5.lp.rs.take hk
      have t2:∀ (i:Nat) (r:Rat),[q][i]? = some r→QC s5 (.agg ((([.bool x9,.slice a9 n9 c9,.slice b9 m9 d9]:List AV).drop (i * 3)).take 3)) r:=fun i r hi=>by
        match i with
        | 0=>injection hi with hi;subst hi;exact(hq.old o02).old o25
        | i+1=>cases hi
      have t3:=h5.lp.rs.drop h5.lp.cz hk
      have u1:=N7 t1.len t1.rat t2
      have u2:=N7 (by rw[xp,t1.len,xp];simp;omega:(cells.take (k * 3)++[AV.bool x9,AV.slice a9 n9 c9,AV.slice b9 m9 d9]).length=(cs.take k++[q]).length * 3) u1 t3.rat
      rw[yW (cs.take k),List.singleton_append]at u2
      exact⟨by rw[← hlen];exact hd5.len,hc5,u2⟩
    have hlp:LP s5 av cv a5 c5 _ vs (cs.take k++q::cs.drop k):=⟨h5.lp.vc,h5.lp.vi,h5.lp.vz,hrs,hz5⟩
    exact⟨by rw[Ww];rfl,by show p<s5.next;omega,h5.hC.box h5.box rfl,hlp.set h5.box rfl h.la hlo5,h.la,hlo5⟩
end
theorem Ng{α:Type}{l:List α}{k:Nat}(h:k<l.length):l.drop k=l[k]::l.drop (k+1):=yV h
theorem NK{l:List Int}{k:Nat}(h:k<l.length)(v:Int):decide (v∈l.take (k+1))=(decide (v∈l.take k) || decide (l[k]=v)):=by
 rw[A0D h,← Bool.decide_or]
 refine decide_eq_decide.2 ?_
 rw[zx,A0H]
 exact⟨fun h=>h.imp id Eq.symm,fun h=>h.imp id Eq.symm⟩
section
variable{E:CU}{s:AE}
theorem UX{p1:Nat}{x1:Bool}{A1 A2 A5:AV}{av:Option (Nat×Nat)}{cv:Option Nat}{vs:List Int}(g1:s.heap.get p1=some (BL x1 A1 A2 (.slice av vs.length cv) A5))(hv:AU s.next s av (vs.map iv)){i:Nat}(hi:i≤vs.length)(hvl:vs.length≤1000000){v:Int}
  {y0 y2 y3 y4 y9 y10 y11 y12 y14 y15 y16 y17 y18:AV} {Q:Ay→Prop}
  (hq:∀y8 y13,Q ⟨.exit 2,[y0,.ptr (some (p1,0)),y2,y3,y4,iv (i:Int),iv v,.bool (decide (v∈vs.take i)),y8,y9,y10,y11,y12,y13,y14,y15,y16,y17,y18],[],s⟩):
  ∀ (r k:Nat) (z13:AV),i - k=r→k≤i→WC E none (.loop Jn) Q [y0,.ptr (some (p1,0)),y2,y3,y4,iv (i:Int),iv v,.bool (decide (v∈vs.take k)),iv (k:Int),y9,y10,y11,y12,z13,y14,y15,y16,y17,y18] [] s:=by
 have l1:=AI (P:=Tryz.prog) (t:=27) (o:=0+3) Fc g1 rfl
 intro r
 induction r with
 | zero =>
  intro k z13 hr hk
  have e:k=i:=by omega
  subst e
  have dd:decide ((k:Int)<(k:Int))=false:=decide_eq_false (by omega)
  refine WC.loop' ?_
  simp only[Jn,Vf,Ry,dd,Qa,Qb,Qc,Qd,Qf,Qh,Qj,Qm,Qo,true_and,Qp,Qq,Qr,Qs,Qt,Qv,Ra,Rb,Rd,Re,Ry]
  exact hq _ _
 | succ r ih =>
  intro k z13 hr hk
  have hlt:k<vs.length:=by omega
  have dd:decide ((k:Int)<(i:Int))=true:=decide_eq_true (by omega)
  have e17:=Az Tryz.prog 3 (k:Int) 1 ⟨by omega,by omega⟩
  have e17':((k:Int)+1)=((k+1:Nat):Int):=by omega
  have hx:vs[k]? = some vs[k]:=xe hlt
  obtain⟨i0,o,rfl,_,ld⟩:=D9 hv hx
  have ix:=Ae (cap:=cv) (i:=i0) (o:=o) (n:=1) Tryz.underlying27 OJ hlt
  have hs:=NK hlt v
  refine WC.loop' ?_
  generalize hW:WC E none (Aa.loop Jn) Q=WW
  cases hd:decide (v∈vs.take k)with
  | true =>
   rw[hd,Bool.true_or]at hs
   simp only[Jn,Vf,dA,To,Ry,dd,Ru,e17,e17',Qa,Qb,Qc,Qd,Qf,Qg,Qh,Qi,Qj,Qk,Qm,Qo,true_and,Qp,Qq,Qr,Qs,Qt,Qu,Qv,Qw,Qx,Qz,Rb,Rd,Re,Rt,Ya,Ru,Rw,Ry]
   rw[← hW,← hs]
   exact ih (k+1) _ (by omega) (by omega)
  | false =>
   rw[hd,Bool.false_or]at hs
   simp only[Jn,Vf,dA,To,Ry,dd,l1,Cz,ix,ld,Wc,Ru,e17,e17',Qa,Qb,Qc,Qd,Qf,Qg,Qh,Qi,Qj,Qk,Qm,Qo,true_and,Qp,Qq,Qr,Qs,Qt,Qv,Qw,Qx,Qz,Rb,Rd,Re,Rt,Yb,Ru,Rw,Ry,Wc]
   rw[← hW,← hs]
   exact ih (k+1) _ (by omega) (by omega)
theorem SE          {p3 : Nat} {x1 : Bool} {A1 A2 A5 : AV} {av : Option (Nat × Nat)} {cv : Option Nat} {vs : List Int} (g3 : s.heap.get p3 = some (BL x1 A1 A2 (.slice av vs.length cv) A5)) (hv : AU      s.next s av (vs.map iv)) (hvl : vs.length ≤ 1000000) {v : Int}
    {y0 y1 y2 y4 y5 y7 y8 y9 y10 y12 y13 y14 y15 y16 y17:AV} {Q:Ay→Prop}
    (hq:∀ (k:Nat) y18,k≤vs.length→(∀j,j<k→∀w,vs[j]? = some w→w<v)→(∀w,vs[k]? = some w→¬ w<v)→Q ⟨.exit 6,[y0,y1,y2,.ptr (some (p3,0)),y4,y5,iv v,y7,y8,y9,y10,iv (k:Int),y12,y13,y14,y15,y16,y17,y18],[],s⟩):
    ∀ (r k:Nat) (z18:AV),vs.length - k=r→k≤vs.length→(∀j,j<k→∀w,vs[j]? = some w→w<v)→WC E none (.loop Jp) Q [y0,y1,y2,.ptr (some (p3,0)),y4,y5,iv v,y7,y8,y9,y10,iv (k:Int),y12,y13,y14,y15,y16,y17,z18] [] s:=by
  have l1:=AI (P:=Tryz.prog) (t:=27) (o:=0+3) Fc g3 rfl
  intro r
  induction r with
  | zero =>
    intro k z18 hr hk hlo
    have dd:decide ((k:Int)<(vs.length:Int))=false:=decide_eq_false (by omega)
    refine WC.loop' ?_
    simp only[Jp,PA,l1,Cz,AH Tryz.underlying27,Ry,dd,Ru,Qa,Qb,Qc,Qd,Qf,Qg,Qh,Qi,Qj,Qk,Qm,Qo,true_and,Qp,Qq,Qr,Qs,Qt,Qu,Qv,Qw,Qx,Ra,Rb,Rd,Re,Rs,Ru,Rw,Ry]
    exact hq k _ hk hlo fun w hw=>by rw[xr (by omega)]at hw;cases hw
  | succ r ih =>
    intro k z18 hr hk hlo
    have hlt:k<vs.length:=by omega
    have dd:decide ((k:Int)<(vs.length:Int))=true:=decide_eq_true (by omega)
    have e17:=Az Tryz.prog 3 (k:Int) 1 ⟨by omega,by omega⟩
    have e17':((k:Int)+1)=((k+1:Nat):Int):=by omega
    have hx:vs[k]? = some vs[k]:=xe hlt
    obtain⟨i0,o,rfl,_,ld⟩:=D9 hv hx
    have ix:=Ae (cap:=cv) (i:=i0) (o:=o) (n:=1) Tryz.underlying27 OJ hlt
    refine WC.loop' ?_
    generalize hW:WC E none (Aa.loop Jp) Q=WW
    by_cases h:vs[k]<v
    · simp only[Jp,PA,Ts,l1,Cz,AH Tryz.underlying27,Ry,dd,ix,ld,decide_eq_true h,Ru,e17,e17',Qa,Qb,Qc,Qd,Qf,Qg,Qh,Qi,Qj,Qk,Qm,Qo,true_and,Qp,Qq,Qr,Qs,Qt,Qv,Qw,Qx,Qz,Rb,Rd,Re,Rs,Ru,Rw,Ry]
      rw[← hW]
      refine ih (k+1) _ (by omega) (by omega) fun j hj w hw=>?_
      rcases xf j k with h' | h'
      · exact hlo j h' w hw
      · have:j=k:=by omega
        subst this
        rw[hx]at hw
        injection hw with hw
        rw[← hw];exact h
    · simp only[Jp,PA,Ts,l1,Cz,AH Tryz.underlying27,Ry,dd,ix,ld,decide_eq_false h,Ru,Qa,Qb,Qc,Qd,Qf,Qg,Qh,Qi,Qj,Qk,Qm,Qo,true_and,Qp,Qq,Qr,Qs,Qt,Qv,Qw,Qx,Ra,Rb,Rd,Re,Rs,Ru,Rw,Ry]
      exact hq k _ hk hlo fun w hw=>by rw[hx]at hw;injection hw with hw;rw[← hw];exact h
theorem XY        (hE : GoodN E) {s0 s9 : AE}  {p1 p9 : Nat} {x1 : Bool} {A1 A2 : AV} {av ac : Option (Nat × Nat)} {cv cc : Option Nat} {vs : List Int} {cs : List Rat} {cells : List AV} {kl : Nat} (g1 : s9.heap.get p1 = some (BL x1 A1 A2 (.slice av vs.length cv) (.slice ac cs.length cc))) (h1 : p1 < s9.next) (h9 : s9.next ≤ p9)
    (hv:AU s9.next s9 av (vs.map iv)) (hr:Ej s9 ac cs kl cells) (hkl:1≤kl) (hb:(min vs.length cs.length+1) * (kl+1)≤1400000) {i:Nat} {v:Int} (hvl:min vs.length cs.length≤1000000)
    {y0 y2 y3 y5 y7 y8 y11 y12 y13 y14 y17 y18:AV} {Q:Ay→Prop}
    (hq:∀S x a n c b m d y10 y15 y16,Af s9.next s9 S→p9<S.next→S.heap.get p9=some (BQ x (.slice a n c) (.slice b m d))→QC S (.agg [.bool x,.slice a n c,.slice b m d]) (Cq (dl v) (vs.drop i) (cs.drop i))→QH (Cq (dl v) (vs.drop i) (cs.drop i)) ((min vs.length cs.length+1) * (kl+1))→Q ⟨.exit 4,[y0,.ptr (some (p1,0)),y2,y3,iv ((min vs.length cs.length:Nat):Int),y5,iv v,y7,y8,.ptr (some (p9,0)),y10,y11,y12,y13,y14,y15,y16,y17,y18],[],S⟩):
    ∀ (r k:Nat) (S:AE) (x:Bool) (a b:Option (Nat×Nat)) (n m:Nat) (c d:Option Nat) (q:Rat) (z15 z16:AV),min vs.length cs.length - k=r→k≤min vs.length cs.length→Af s9.next s9 S→p9<S.next→S.heap.get p9=some (BQ x (.slice a n c) (.slice b m d))→QC S (.agg [.bool x,.slice a n c,.slice b m d]) q→QH q (1+k * (kl+1))→q+Cq (dl v) (vs.drop k) (cs.drop k)=Cq (dl v) (vs.drop i) (cs.drop i) →
      WC E none (.loop Jo) Q [y0,.ptr (some (p1,0)),y2,y3,iv ((min vs.length cs.length:Nat):Int),y5,iv v,y7,y8,.ptr (some (p9,0)),iv (k:Int),y11,y12,y13,y14,z15,z16,y17,y18] [] S:=by
  intro r
  induction r with
  | zero =>
    intro k S x a b n m c d q z15 z16 hr0 hk ho hp9 gq hqc hqh hsum
    have e:k=min vs.length cs.length:=by omega
    have dd:decide ((k:Int)<((min vs.length cs.length:Nat):Int))=false:=decide_eq_false (by omega)
    have hz:Cq (dl v) (vs.drop k) (cs.drop k)=0:=by
      rcases Nat.le_total vs.length cs.length with h | h
      · rw[yQ (show vs.length≤k by omega)];rfl
      · rw[yQ (show cs.length≤k by omega)]
        cases vs.drop k<;>rfl
    rw[hz,Rat.add_zero]at hsum
    subst hsum
    refine WC.loop' ?_
    simp only[Jo,O9,Ry,dd,Qa,Qb,Qc,Qd,Qf,Qh,Qj,Qm,Qo,true_and,Qp,Qq,Qr,Qs,Qt,Qv,Ra,Rb,Rd,Re,Ry]
    refine hq S x a n c b m d _ _ _ ho hp9 gq hqc (hqh.le ?_)
    rw[← e,yH,ye]
    omega
  | succ r ih =>
    intro k S x a b n m c d q z15 z16 hr0 hk ho hp9 gq hqc hqh hsum
    have hlv:k<vs.length:=by omega
    have hlc:k<cs.length:=by omega
    have dd:decide ((k:Int)<((min vs.length cs.length:Nat):Int))=true:=decide_eq_true (by omega)
    have e17:=Az Tryz.prog 3 (k:Int) 1 ⟨by omega,by omega⟩
    have e17':((k:Int)+1)=((k+1:Nat):Int):=by omega
    have hx:vs[k]? = some vs[k]:=xe hlv
    have hS1:S.heap.get p1=_:=(ho.2 p1 h1).trans g1
    have l1:=AI (P:=Tryz.prog) (t:=27) (o:=0+3) Fc hS1 rfl
    have l2:=AI (P:=Tryz.prog) (t:=28) (o:=0+4) Eb hS1 rfl
    obtain⟨i0,o,rfl,hi0,ld⟩:=D9 hv hx
    have ld':=EL t7 ho hi0 ld
    have ix:=Ae (cap:=cv) (i:=i0) (o:=o) (n:=1) Tryz.underlying27 OJ hlv
    obtain⟨i1,o1,rfl,hi1,lr⟩:=hr.load hlc
    have lr':=EL Bt ho hi1 lr
    have ixr:=Ae (cap:=cc) (i:=i1) (o:=o1) (n:=3) Tryz.underlying28 A9 hlc
    have hb1:(k+1) * (kl+1)+1 * (kl+1)≤1400000:=by
      rw[← yH]
      exact xh (yA _ (by omega)) hb
    have hk1:(k+1) * (kl+1)=k * (kl+1)+(kl+1):=by rw[yH,ye]
    have hstep:Cq (dl v) (vs.drop k) (cs.drop k)=cs[k] * dl v vs[k]+Cq (dl v) (vs.drop (k+1)) (cs.drop (k+1)):=by
      rw[Ng hlv,Ng hlc];rfl
    rw[hstep]at hsum
    refine WC.loop' ?_
    generalize hW:WC E none (Aa.loop Jo) Q=WW
    by_cases he:vs[k]=v
    · have lq:=AT (P:=Tryz.prog) (t:=26) Bt A9 gq rfl
      simp only[Jo,O9,Tq,Ry,dd,l1,Cz,ix,ld',Wc,decide_eq_true he,Qa,Qb,Qc,Qd,Qf,Qh,Qj,Qk,Qm,Qo,true_and,Qp,Qq,Qr,Qs,Qt,Qv,Qz,Rb,Rd,Re,Ry,Wc]
      simp only[cY,lq,l2,C0,ixr,lr',Qb,Qc,Qd,Qf,Qh,Qj,Qk,Qm,Qo,true_and,Qr,Qs,Qt,Qv]
      refine jb hE (hqc.qi hqh) ((hr.rat k cs[k] (xe hlc)).old ho) (by omega) hkl (by omega) fun S' w o' r'=>?_
      have gq':=(o'.2 p9 hp9).trans gq
      obtain⟨a',n',c',b',m',d',rfl⟩:=r'.shape
      obtain⟨st,_⟩:=CG (cs0:=[.bool x,.slice a n c,.slice b m d]) rfl (x:=decide ((q+cs[k]).num<0)) (a:=a') (n:=n') (c:=c') (b:=b') (m:=m') (d:=d') gq'
      simp only[st,Xy,Za,Tr,e17,e17',Qb,Qc,Qd,Qf,Qh,Qi,Qj,Qk,Qm,Qo,true_and,Qp,Qq,Qr,Qs,Qt,Qv]
      rw[← hW]
      have hS':=o'.1
      refine ih (k+1) _ _ _ _ _ _ _ _ (q+cs[k]) _ _ (by omega) (by omega) ((ho.trans (o'.mono ho.1)).set h9 _) (by show p9<S'.next;omega) (Ww _ _ _) (r'.box gq' rfl) ?_ ?_
      · have h2:=QH.add hqh (((hr.rat k cs[k] (xe hlc)).qh hkl))
        exact h2.le (by omega)
      · rw [he, PE]      at hsum
        rw[← hsum]
        grind
    · simp only[Jo,O9,Tq,Ry,dd,l1,Cz,ix,ld',Wc,decide_eq_false he,Tr,e17,e17',Qa,Qb,Qc,Qd,Qf,Qh,Qi,Qj,Qk,Qm,Qo,true_and,Qp,Qq,Qr,Qs,Qt,Qv,Qz,Ra,Rb,Rd,Re,Ry,Wc]
      rw[← hW]
      refine ih (k+1) S _ _ _ _ _ _ _ q _ _ (by omega) (by omega) ho hp9 gq hqc (hqh.le (by omega)) ?_
      rw[Nc he]at hsum
      rw[← hsum]
      grind
end
theorem J1(a:Int→Rat)(vs:List Int):Cq a vs []=0:=by cases vs<;>rfl
theorem Hh{v:Int}:∀ (i:Nat)(vs:List Int)(cs:List Rat),v ∉ vs.take i→Cq (dl v) vs cs=Cq (dl v) (vs.drop i) (cs.drop i)
 | 0,vs,cs,_=>rfl
 | i+1,[],cs,_=>rfl
 | i+1,n::vs,[],_=>by rw[List.drop_nil,J1,J1]
 | i+1,n::vs,c::cs,h=>by
  have h':v≠n∧v ∉ vs.take i:=by
   rw[A0L,List.mem_cons]at h
   exact⟨fun e=>h (.inl e),fun e=>h (.inr e)⟩
  show c * dl v n+Cq (dl v) vs cs=Cq (dl v) (vs.drop i) (cs.drop i)
  rw[Nc (Ne.symm h'.1),Rat.mul_zero,Rat.zero_add,Hh i vs cs h'.2]
theorem Vk:∀ {L:List (Int×Rat)},Can L→∀p∈L,Eg (dl p.1) L=p.2
 | q::L,h,p,hp=>by
  rcases List.mem_cons.1 hp with rfl | hp
  ·exact h.head
  ·show q.2 * dl p.1 q.1+Eg (dl p.1) L=p.2
   have:=h.tail.2 p hp
   rw[Nc (by omega),Rat.mul_zero,Rat.zero_add,Vk h.tail.1 p hp]
structure MV(vs:List Int)(cs:List Rat)(B i:Nat)(L:List (Int×Rat)):Prop where
 can:Can L
 ev:∀w,Eg (dl w) L=if w∈vs.take i then Cq (dl w) vs cs else 0
 len:L.length≤i
 qh:∀p∈L,QH p.2 B
theorem EN{vs:List Int}{i:Nat}(h:i<vs.length)(w:Int):w∈vs.take (i+1)↔w∈vs.take i∨w=vs[i]:=by
 rw[A0D h,zx,A0H]
theorem MV.skip{vs:List Int}{cs:List Rat}{B i:Nat}{L:List (Int×Rat)}(h:MV vs cs B i L)(hi:i<vs.length)(hs:vs[i]∈vs.take i∨Cq (dl vs[i]) (vs.drop i) (cs.drop i)=0):MV vs cs B (i+1) L:=by
 refine⟨h.can,fun w=>?_,Nat.le_succ_of_le h.len,h.qh⟩
 rw[h.ev w]
 by_cases h1:w∈vs.take i
 ·rw[if_pos h1,if_pos ((EN hi w).2 (.inl h1))]
 ·rw[if_neg h1]
  by_cases h2:w=vs[i]
  ·subst h2
   rw[if_pos ((EN hi _).2 (.inr rfl))]
   rcases hs with hs | hs
   ·exact absurd hs h1
   ·rw[Hh i vs cs h1,hs]
  ·rw[if_neg fun h3=>by rcases(EN hi w).1 h3 with h3 | h3;(· exact h1 h3);exact h2 h3]
theorem MV.ins {vs : List Int} {cs : List Rat} {B i : Nat} {L : List (Int × Rat)} (h : MV vs cs B i L) (hi : i < vs.length) (hs : vs[i] ∉ vs.take i) (hc : Cq   (dl vs[i]) (vs.drop i) (cs.drop i) ≠ 0) (hq : QH (Cq   (dl vs[i]) (vs.drop i) (cs.drop i)) B) {k : Nat} (h1 : ∀ j, j < k → ∀ w, (L.map (·.1))[j]? = some w → w < vs[i]) (h2 : ∀ w, (L.map (·.1))[k]? = some w → ¬ w < vs[i]) :
    MV vs cs B (i+1) (L.take k++(vs[i],Cq (dl vs[i]) (vs.drop i) (cs.drop i))::L.drop k):=by
  have hv:∀p∈L,p.1≠vs[i]:=fun p hp e=>by
    have h3:=Vk h.can p hp
    rw[h.ev,e,if_neg hs]at h3
    exact h.can.2 p hp h3.symm
  refine⟨ic h.can hc hv (fun j p hj hp=>h1 j hj p.1 (by rw[yY,hp];rfl)) (fun p hp=>h2 p.1 (by rw[yY,hp];rfl)),fun w=>?_,?_,fun p hp=>?_⟩
  · rw[ja,h.ev w]
    by_cases h3:w∈vs.take i
    · have hne:vs[i]≠w:=fun e=>hs (e▸h3)
      rw[if_pos h3,if_pos ((EN hi w).2 (.inl h3)),Nc hne,Rat.mul_zero,Rat.add_zero]
    · rw[if_neg h3]
      by_cases h4:w=vs[i]
      · subst h4
        rw[if_pos ((EN hi _).2 (.inr rfl)),PE,Rat.mul_one,Rat.zero_add,Hh i vs cs h3]
      · rw[Nc (Ne.symm h4),Rat.mul_zero,Rat.add_zero,if_neg fun h5=>by rcases(EN hi w).1 h5 with h5 | h5;(· exact h3 h5);exact h4 h5]
  · have:=h.len
    rw[xp,yU,xz,yL]
    omega
  · rcases zx.1              hp with hp | hp
    · exact h.qh p (A0K hp)
    · rcases List.mem_cons.1 hp with rfl | hp
      · exact hq
      · exact h.qh p (A0B hp)
theorem MV.zero(vs:List Int)(cs:List Rat)(B:Nat):MV vs cs B 0 []:=⟨⟨List.Pairwise.nil,fun p h=>by cases h⟩,fun w=>by rw[zD,if_neg (fun h=>by cases h)];rfl,xZ _,fun p h=>by cases h⟩
theorem MV.done{vs:List Int}{cs:List Rat}{B:Nat}{L:List (Int×Rat)}(h:MV vs cs B (min vs.length cs.length) L)(a:Int→Rat):Eg a L=Cq a vs cs:=by
  refine rS h.can (fun w=>?_) a
  rw[h.ev w]
  by_cases h1:w∈vs.take (min vs.length cs.length)
  · rw[if_pos h1]
  · rw [if_neg h1, Hh        _ vs cs h1]
    rcases Nat.le_total vs.length cs.length with h2 | h2
    · rw[yQ (show vs.length≤_ by omega)];rfl
    · rw[yQ (show cs.length≤_ by omega),J1]
structure MI(sB S:AE)(p1 p2 p3:Nat)(B1:BD):Prop where
 o:Af sB.next sB S
 g1:S.heap.get p1=some B1
 g2:S.heap.get p2=some ZL
 lB:sB.next≤p1
 l12:p1<p2
 l23:p2<p3
 l3:p3<S.next
theorem MI.fr{sB S S':AE}{p1 p2 p3:Nat}{B1:BD}(h:MI sB S p1 p2 p3 B1)(hn:S.next≤S'.next)(hf:∀j,j<S.next→j≠p3→S'.heap.get j=S.heap.get j):MI sB S' p1 p2 p3 B1:=by
 have h1:=h.lB
 have h2:=h.l12
 have h3:=h.l23
 have h4:=h.l3
 exact⟨⟨xh h.o.1 hn,fun j hj=>(hf j (xi hj h.o.1) (by omega)).trans (h.o.2 j hj)⟩,(hf p1 (by omega) (by omega)).trans h.g1,(hf p2 (by omega) (by omega)).trans h.g2,h.lB,h.l12,h.l23,xi h.l3 hn⟩
theorem MI.old{sB S S':AE}{p1 p2 p3:Nat}{B1:BD}(h:MI sB S p1 p2 p3 B1)(o:Af S.next S S'):MI sB S' p1 p2 p3 B1:=h.fr o.1 fun j hj _=>o.2 j hj
theorem Bo.keep2  {s s' : AE}  {v : AV} {l : List Nat} {p e : Nat} {sp : Bool} {cs : List AV} (h : Bo  s v l) (hg : s.heap.get p = some (R e 0 sp cs)) (hc : cs.all Kd    = true) (hn : s.next ≤ s'.next) (hf : ∀ j, j < s.next → j ≠ p → s'.heap.get j = s.heap.get j) : Bo  s' v l := by
  obtain⟨a,cap,rfl,h2,h3⟩:=h
  refine⟨a,cap,rfl,?_,fun k u hu=>?_⟩
  · rcases h2 with h2 | ⟨g1, i, o', r, rfl, g3, g4, g5, g6⟩
    · exact .inl h2
    · refine .inr ⟨g1, i, o', r, rfl, by omega, ?_, g5, g6⟩
      rw[hf i g3 (by
        rintro rfl
        rw[hg]at g4
        injection g4 with g4
        injection g4 with g4
        rw[← g4]at g5
        cases g5)]
      exact g4
  · obtain⟨i,o',rfl,g2,g3⟩:=h3 k u hu
    refine⟨i,o',rfl,by omega,?_⟩
    have hne:i≠p:=by
      rintro rfl
      rw[E2,hg,Wo]at g3
      have h5:=List.all_eq_true.1 hc u (yG g3)
      have h6:u∈us l:=yG hu
      obtain⟨x,_,rfl⟩:=List.mem_map.1 h6
      cases h5
    rw[B6 (hf i g2 hne)]
    exact g3
theorem YW:BT Tryz.prog 26 (zipIdx [] [])=some (.agg [.bool false,.slice none 0 (some 0),.slice none 0 (some 0)]):=by kernel_rfl
theorem hZ(s:AE):QI s (.agg [.bool false,.slice none 0 (some 0),.slice none 0 (some 0)]) 0 1:=
 ⟨false,_,_,[],[],rfl,(NR.nil 0 s).n32,(NR.nil 0 s).n32,fun x h=>(by cases h),fun x h=>(by cases h),xg _,xg _,by decide⟩
theorem fb(L:List (Int×Rat))(k:Nat)(v:Int)(c:Rat):(L.map (·.1)).take k++v::(L.map (·.1)).drop k=(L.take k++(v,c)::L.drop k).map (·.1):=by simp[zh,List.map_drop]
theorem fc(L:List (Int×Rat))(k:Nat)(v:Int)(c:Rat):(L.map (·.2)).take k++c::(L.map (·.2)).drop k=(L.take k++(v,c)::L.drop k).map (·.2):=by simp[zh,List.map_drop]
section
variable{E:CU}{s:AE}
theorem XV        (hE : GoodN E) {sB : AE}  {p1 p2 p3 : Nat} {x1 : Bool} {A1 A2 : AV} {av ac : Option (Nat × Nat)} {cv cc : Option Nat} {vs : List Int} {cs : List Rat} {cells : List AV} {kl : Nat}
    (hv:AU sB.next sB av (vs.map iv)) (hvi:∀n∈vs,i64 n) (hr:Ej sB ac cs kl cells) (hkl:1≤kl) (hb:(min vs.length cs.length+1) * (kl+1)≤1400000) (hM:min vs.length cs.length≤1000) (hvl:vs.length≤1000000)
    {x a n c b m d C} {y0:AV} {Q:Ay→Prop}
    (hq:∀S L av' cv' ac' cc' cells' y5 y6 y7 y8 y9 y10 y11 y12 y13 y14 y15 y16 y17 y18,MI sB S p1 p2 p3 (BL x1 A1 A2 (.slice av vs.length cv) (.slice ac cs.length cc))→MO S p3 x a n c b m d av' cv' ac' cc' cells' C (L.map (·.1)) (L.map (·.2))→MV vs cs ((min vs.length cs.length+1) * (kl+1)) (min vs.length cs.length) L →
      Q ⟨.exit 0,[y0,.ptr (some (p1,0)),.ptr (some (p2,0)),.ptr (some (p3,0)),iv ((min vs.length cs.length:Nat):Int),y5,y6,y7,y8,y9,y10,y11,y12,y13,y14,y15,y16,y17,y18],[],S⟩):
    ∀ (r i:Nat) (S:AE) (L:List (Int×Rat)) (av':Option (Nat×Nat)) (cv':Option Nat) (ac':Option (Nat×Nat)) (cc':Option Nat) (cells':List AV) (y6 y7 y8 y9 y10 y11 y12 y13 y14 y15 y16 y17 y18:AV),min vs.length cs.length - i=r→i≤min vs.length cs.length→MI sB S p1 p2 p3 (BL x1 A1 A2 (.slice av vs.length cv) (.slice ac cs.length cc))→MO S p3 x a n c b m d av' cv' ac' cc' cells' C (L.map (·.1)) (L.map (·.2))→MV vs cs ((min vs.length cs.length+1) * (kl+1)) i L →
      WC E none (.loop Ll) Q [y0,.ptr (some (p1,0)),.ptr (some (p2,0)),.ptr (some (p3,0)),iv ((min vs.length cs.length:Nat):Int),iv (i:Int),y6,y7,y8,y9,y10,y11,y12,y13,y14,y15,y16,y17,y18] [] S:=by
  intro r
  induction r with
  | zero =>
    intro i S L av' cv' ac' cc' cells' y6 y7 y8 y9 y10 y11 y12 y13 y14 y15 y16 y17 y18 hr0 hi hMI hMO hMV
    have e:i=min vs.length cs.length:=by omega
    subst e
    have dd:decide (((min vs.length cs.length:Nat):Int)<((min vs.length cs.length:Nat):Int))=false:=decide_eq_false (by omega)
    refine WC.loop' ?_
    simp only[Ll,cn,Ry,dd,Qa,Qb,Qc,Qd,Qf,Qh,Qj,Qm,Qo,true_and,Qp,Qq,Qr,Qs,Qt,Qv,Ra,Rb,Rd,Re,Rg,Ry]
    exact hq S L av' cv' ac' cc' cells' _ _ _ _ _ _ _ _ _ _ _ _ _ _ hMI hMO hMV
  | succ r ih =>
    intro i S L av' cv' ac' cc' cells' y6 y7 y8 y9 y10 y11 y12 y13 y14 y15 y16 y17 y18 hr0 hi hMI hMO hMV
    have hlv:i<vs.length:=by omega
    have hlc:i<cs.length:=by omega
    have dd:decide ((i:Int)<((min vs.length cs.length:Nat):Int))=true:=decide_eq_true (by omega)
    have e17:=Az Tryz.prog 3 (i:Int) 1 ⟨by omega,by omega⟩
    have e17':((i:Int)+1)=((i+1:Nat):Int):=by omega
    have hx:vs[i]? = some vs[i]:=xe hlv
    have hi64:i64 vs[i]:=hvi _ (zQ hlv)
    have l1:=AI (P:=Tryz.prog) (t:=27) (o:=0+3) Fc hMI.g1 rfl
    have hvS:=(hv.old hMI.o (xZ _)).mono hMI.o.1
    obtain⟨i0,o,rfl,hi0,ld⟩:=D9 hvS hx
    have ix:=Ae (cap:=cv) (i:=i0) (o:=o) (n:=1) Tryz.underlying27 OJ hlv
    refine WC.loop' ?_
    generalize hW:WC E none (Aa.loop Ll) Q=WW
    simp only[Ll,cn,mY,mZ,mc,Ry,dd,l1,Cz,ix,ld,Qa,Qb,Qc,Qd,Qf,Qh,Qi,Qj,Qk,Qm,Qo,true_and,Qp,Qq,Qr,Qs,Qt,Qv,Qz,Rb,Rd,Re,Rg,Ry]
    refine UX hMI.g1 hvS (i:=i) (v:=vs[i]) (by omega) hvl (fun z8 z13=>?_) i 0 _ rfl (xg _)
    by_cases hseen:vs[i]∈vs.take i
    · simp only[decide_eq_true hseen,Tp,if_true,PB,e17,e17',Qb,Qc,Qd,Qf,Qh,Qi,Qj,Qk,Qm,Qo,true_and,Qp,Qq,Qr,Qs,Qt,Qv,Qz,Rb,Rd,Rg]
      rw[← hW]
      exact ih (i+1) S L _ _ _ _ _ _ _ _ _ _ _ _ _ _ _ _ _ _ (by omega) (by omega) hMI hMO (hMV.skip hlv (.inl hseen))
    · simp only[decide_eq_false hseen,Tp,cW,if_true,YW,Qb,Qc,Qd,Qf,Qh,Qj,Qk,Qm,Qo,true_and,Qp,Qq,Qr,Qs,Qt,Qv,Ra,Rb,Rd,Rg]
      refine L6 hE (hZ S) (by decide) (by decide) fun S1 w1 o1 r1=>?_
      have hMI1:=hMI.old o1
      have hMO1:=hMO.old o1
      obtain⟨za,zn,zc,zb,zm,zd,rfl⟩:=r1.shape
      obtain⟨n2,o2,g2⟩:=CC S1 ZQ
      simp only[CE,Xc,Qd,Qm,Qo,true_and,Qp,Qq,Qr,Qs]
      have hMI2:=hMI1.old o2
      have hMO2:=hMO1.old o2
      have r2:=r1.old o2
      have hl1:=hMI1.l3
      generalize newObj S1 ZQ=S2 at *
      obtain⟨st,_⟩:=CG (cs0:=[.bool false,.slice none 0 (some 0),.slice none 0 (some 0)]) rfl (x:=decide ((0:Rat).num<0)) (a:=za) (n:=zn) (c:=zc) (b:=zb) (m:=zm) (d:=zd) g2
      simp only[st,Xy,Za,cX,Qb,Qc,Qd,Qf,Qh,Qj,Qm,Qo,true_and,Qp,Qq,Qr,Qs,Qt,Qv]
      have hvS1:=(hv.old hMI1.o (xZ _)).mono hMI1.o.1
      have hS2:=o2.1
      refine XY (S:=setObj S2 S1.next (BQ (decide ((0:Rat).num<0)) (.slice za zn zc) (.slice zb zm zd))) (i:=i) (k:=i) (s9:=S1) (p9:=S1.next) (q:=0) hE (s0:=S1) hMI1.g1 (by have:=hMI1.l12;have:=hMI1.l23;omega) (xZ _) hvS1 (hr.old hMI1.o) hkl hb (by omega) (fun S3 x3 a3 m3 c3 b3 k3 d3 z10 z15 z16 o3 h93 g3 r3 q3=>?_) _ _ _ _ _ _ _ _ _ _ rfl (by omega) (o2.set (xZ _) _) (by show S1.next<S2.next;omega) (Ww _ _ _) (r2.box g2 rfl) (tu.le (by omega)) (by rw[Rat.zero_add])
      have hMI3:=hMI1.old o3
      have hMO3:=hMO1.old o3
      have lq:=AT (P:=Tryz.prog) (t:=26) Bt A9 g3 rfl
      simp only[cZ,if_true,lq,Qb,Qc,Qd,Qf,Qh,Qi,Qj,Qk,Qm,Qo,true_and,Qr,Qs,Qt,Qv,Rb,Rd,Rg]
      refine RT hE r3 q3 (by omega) fun S4 o4=>?_
      have hMI4:=hMI3.old o4
      have hMO4:=hMO3.old o4
      simp only[Wc,Qd,Qm,Qo,true_and,Qp,Qq,Qr,Qs,Wc]
      by_cases hc0:ES (Cq (dl vs[i]) (vs.drop i) (cs.drop i)).num=0
      · simp only[decide_eq_true hc0,PB,e17,e17',Qb,Qc,Qd,Qf,Qh,Qi,Qj,Qk,Qm,Qo,true_and,Qp,Qq,Qr,Qs,Qt,Qv,Qz]
        rw[← hW]
        refine ih (i+1) S4 L _ _ _ _ _ _ _ _ _ _ _ _ _ _ _ _ _ _ (by omega) (by omega) hMI4 hMO4 (hMV.skip hlv (.inr ?_))
        exact Classical.byContradiction fun h=>(LL _).2 h hc0
      · have hc : Cq   (dl vs[i]) (vs.drop i) (cs.drop i) ≠ 0 := (LL      _).1 hc0
        have hLl:=hMV.len
        simp only[decide_eq_false hc0,ck,Qb,Qc,Qd,Qf,Qh,Qi,Qm,Qo,true_and,Qp,Qq,Qt,Qv,Ra]
        refine SE (s:=S4) (v:=vs[i]) hMO4.box hMO4.lp.vc (by rw[yE];omega) (fun k z18 hk hlo hhi=>?_) _ 0 _ rfl (xg _) (fun j hj=>absurd hj (Nat.not_lt_zero _))
        simp only[if_true,Rb,Rd,Rg]
        rw[yE]at hk
        refine jg hMO4 (by rw[yE];exact hk) (by rw[yE];omega) hi64 fun S5 av5 cv5 hn5 hf5 hMO5=>?_
        have hMI5:=hMI4.fr hn5 hf5
        have h9a:S1.next<S4.next:=xi h93 o4.1
        have hl1':=hMI1.l3
        have g5:S5.heap.get S1.next=some (BQ x3 (.slice a3 m3 c3) (.slice b3 k3 d3)):=by rw[hf5 _ h9a (by omega),o4.2 _ h93];exact g3
        have r5:QC S5 (.agg [.bool x3,.slice a3 m3 c3,.slice b3 k3 d3]) (Cq (dl vs[i]) (vs.drop i) (cs.drop i)):=by
          obtain⟨m',d',e',h1',h2'⟩:=r3.old o4
          injection e' with e'
          injection e' with e1 e'
          injection e' with e2 e'
          injection e' with e3 _
          subst e2;subst e3
          refine⟨_,_,by rw[e1],h1'.keep2 hMO4.box rfl hn5 hf5,h2'.keep2 hMO4.box rfl hn5 hf5⟩
        refine jf hMO5 (by rw[yE];exact hk) (by rw[yE];omega) g5 (by omega) r5 fun S6 ac6 cc6 cells6 hn6 hf6 hMO6=>?_
        have hMI6:=hMI5.fr hn6 hf6
        rw[fb L k vs[i] (Cq (dl vs[i]) (vs.drop i) (cs.drop i)),fc L k vs[i]]at hMO6
        simp only[PB,e17,e17',Qb,Qc,Qd,Qf,Qh,Qi,Qj,Qk,Qm,Qo,true_and,Qp,Qq,Qr,Qs,Qt,Qv]
        rw[← hW]
        exact ih (i+1) S6 _ _ _ _ _ _ _ _ _ _ _ _ _ _ _ _ _ _ _ (by omega) (by omega) hMI6 hMO6 (hMV.ins hlv hseen hc q3 hlo hhi)
theorem fC(hE:GoodN E){v:AV}{C:Rat}{vs:List Int}{cs:List Rat}{kl:Nat}(hl:LI s v C vs cs kl)(hkl:1≤kl)(hb:(min vs.length cs.length+1) * (kl+1)≤1400000)(hM:min vs.length cs.length≤1000)(hvl:vs.length≤1000000){K:AV→AE→Prop}
  (hK:∀s' w L,Af s.next s s'→LC s.next s' w C L→Can L→(∀a,Eg a L=Cq a vs cs)→L.length≤min vs.length cs.length→QH C kl→(∀p∈L,QH p.2 ((min vs.length cs.length+1) * (kl+1)))→K w s'):WF E 43 [v] K s:=by
 obtain⟨x,a,n,c,b,m,d,av,cv,ac,cc,cells,rfl,hC,hv,hvi,hr,hvz,hcz⟩:=hl
 have hCq:=hC.qh hkl
 have hkl2:kl+1≤1400000:=xh (zM _ (by omega)) hb
 refine hE.go sE (by decide) rfl ?_
 obtain⟨n1,o1,g1,g2⟩:=EO s (BL x (.slice a n c) (.slice b m d) (.slice av vs.length cv) (.slice ac cs.length cc)) ZL
 simp only[wj,mU,Xa,Xh,El,Xc,Aq,Qa,Qb,Qc,Qd,Qf,Qh,Qj,Ql,Qm,Qo,true_and,Qp,Qq,Qr,Qt,Qv,Rb,Rh]
 generalize newObj (newObj s (BL x (.slice a n c) (.slice b m d) (.slice av vs.length cv) (.slice ac cs.length cc))) ZL=s1 at *
 have lc:AC Tryz.prog s1 26 (.ptr (some (s.next,0+0)))=some (.agg [.bool x,.slice a n c,.slice b m d]):=Av (o:=0) (n:=3) Bt A9 g1 (by simp)
 simp only[mV,lc,IP,Qb,Qc,Qd,Qf,Qh,Qj,Qk,Qm,Qo,true_and,Qr,Qs,Qt,Qv]
 refine L6 hE (hC.old o1) hkl (by omega) fun s2 w2 o2 r2=>?_
 obtain⟨a2,n2,c2,b2,m2,d2,rfl⟩:=r2.shape
 obtain⟨n3,o3,g3⟩:=CC s2 ZL
 simp only[La,El,Xc,Qd,Qm,Qo,true_and,Qp,Qq,Qr,Qs]
 have r3:=r2.old o3
 generalize newObj s2 ZL=s3 at *
 have h2:=o2.1
 obtain⟨st,_⟩:=CF (cs0:=[.bool false,.slice none 0 (some 0),.slice none 0 (some 0),.slice none 0 (some 0),.slice none 0 (some 0)]) rfl (x:=decide (C.num<0)) (a:=a2) (n:=n2) (c:=c2) (b:=b2) (m:=m2) (d:=d2) (av:=none) (nv:=0) (cv:=some 0) (ac:=none) (nc:=0) (cc:=some 0) g3
 have r4:=r3.box (o:=BL (decide (C.num<0)) (.slice a2 n2 c2) (.slice b2 m2 d2) (.slice none 0 (some 0)) (.slice none 0 (some 0))) g3 rfl
 simp only[st,Xy,Za,Qm]
 generalize hs4:setObj s3 s2.next (BL (decide (C.num<0)) (.slice a2 n2 c2) (.slice b2 m2 d2) (.slice none 0 (some 0)) (.slice none 0 (some 0)))=s4 at *
 have n4:s4.next=s3.next:=by rw[← hs4];rfl
 have f4:∀j,j≠s2.next→s4.heap.get j=s3.heap.get j:=fun j hj=>by rw[← hs4,Wx _ hj]
 have g4:s4.heap.get s2.next=some (BL (decide (C.num<0)) (.slice a2 n2 c2) (.slice b2 m2 d2) (.slice none 0 (some 0)) (.slice none 0 (some 0))):=by rw[← hs4,Ww]
 have o14:Af s1.next s1 s4:=⟨by omega,fun j hj=>by rw[f4 j (by omega),o3.2 j (by omega),o2.2 j hj]⟩
 have hMI:MI s s4 s.next (s.next+1) s2.next (BL x (.slice a n c) (.slice b m d) (.slice av vs.length cv) (.slice ac cs.length cc)):=
  ⟨o1.trans (o14.mono o1.1),(o14.2 _ (by omega)).trans g1,(o14.2 _ (by omega)).trans g2,xZ _,by omega,by omega,by omega⟩
 have hMO:MO s4 s2.next (decide (C.num<0)) a2 n2 c2 b2 m2 d2 none (some 0) none (some 0) [] C [] []:=
  ⟨g4,by omega,r4,⟨AU.nil,fun n h=>(by cases h),.inl ⟨0,rfl,xZ _,fun _=>rfl⟩,Cg.nil _,.inl ⟨0,rfl,xZ _,fun _=>rfl⟩⟩,fun i q h=>(by cases h),fun i q h=>(by cases h)⟩
 have l1:=AI (P:=Tryz.prog) (t:=27) (o:=0+3) Fc hMI.g1 rfl
 have l2:=AI (P:=Tryz.prog) (t:=28) (o:=0+4) Eb hMI.g1 rfl
 have mm:Ct false (iv (vs.length:Int)) [iv (cs.length:Int)]=some (iv ((min vs.length cs.length:Nat):Int)):=MW _ _
 simp only[mW,mX,l1,l2,Cz,C0,AH Tryz.underlying27,AH Tryz.underlying28,mm,Qb,Qc,Qd,Qf,Qh,Qi,Qj,Qk,Qm,Qo,true_and,Qp,Qq,Qr,Qs,Qt,Qv]
 refine XV (sB:=s) hE hv hvi hr hkl hb hM hvl (fun S L av' cv' ac' cc' cells' y5 y6 y7 y8 y9 y10 y11 y12 y13 y14 y15 y16 y17 y18 hMI' hMO' hMV'=>?_) _ 0 s4 [] _ _ _ _ _ _ _ _ _ _ _ _ _ _ _ _ _ _ rfl (xg _) hMI hMO (MV.zero _ _ _)
 have lS:=AT (P:=Tryz.prog) (t:=30) GJ Fk hMO'.box rfl
 obtain⟨st,ld⟩:=CF (cs0:=[.bool false,.slice none 0 (some 0),.slice none 0 (some 0),.slice none 0 (some 0),.slice none 0 (some 0)]) rfl (x:=decide (C.num<0)) (a:=a2) (n:=n2) (c:=c2) (b:=b2) (m:=m2) (d:=d2) (av:=av') (nv:=(L.map (·.1)).length) (cv:=cv') (ac:=ac') (nc:=(L.map (·.2)).length) (cc:=cc') hMI'.g2
 simp only[cl,if_true,lS,st,ld,AQ,Xy,Za,Qb,Qc,Qd,Qf,Qh,Qj,Qk,Qm,Qo,true_and,Qr,Qs,Qt,Qv,Rb,Rd,Rg,Rj,Rk,Rn,Yc]
 have h23:=hMI'.l23
 refine hK _ _ L (hMI'.o.set (by omega) _) ⟨_,_,_,_,_,_,_,_,_,_,_,_,rfl,hMO'.hC.box hMI'.g2 rfl,hMO'.lp.set hMI'.g2 rfl (fun i q h=>?_) (fun i q h=>?_),fun i q h=>?_,fun i q h=>?_⟩ hMV'.can hMV'.done hMV'.len hCq hMV'.qh
 ·have:=hMO'.la i q h;omega
 ·have:=hMO'.lc i q h;omega
 ·have:=hMO'.la i q h;omega
 ·have:=hMO'.lc i q h;omega
end
theorem LC.empty{b:Nat}{s:AE}{x:Bool}{a c:Option (Nat×Nat)}{n m:Nat}{d e:Option Nat}{C:Rat}(h:QC s (.agg [.bool x,.slice a n d,.slice c m e]) C):LC b s (.agg [.bool x,.slice a n d,.slice c m e,.slice none 0 (some 0),.slice none 0 (some 0)]) C []:=
 ⟨_,_,_,_,_,_,_,none,some 0,none,some 0,[],rfl,h,⟨AU.nil,fun n h=>(by cases h),.inl ⟨0,rfl,xZ _,fun _=>rfl⟩,Cg.nil _,.inl ⟨0,rfl,xZ _,fun _=>rfl⟩⟩,fun i q h=>(by cases h),fun i q h=>(by cases h)⟩
theorem QQ(x:Bool)(a:Option (Nat×Nat))(n:Nat)(c:Option Nat):BT Tryz.prog 26 (zipIdx [0] [.agg [.bool x,.slice a n c]])=some (.agg [.bool x,.slice a n c,.slice none 0 (some 0)]):=by kernel_rfl
section
variable{E:CU}{s:AE}
theorem XC(hE:GoodN E){v:AV}{C:Rat}{k:Nat}(hv:QI s v C k)(hk1:1≤k)(hk:k≤3000000){K:AV→AE→Prop}(hK:∀s' w,Af s.next s s'→LC s.next s' w C []→K w s'):WF E 55 [v] K s:=by
 obtain⟨x,a,n,c,b,m,d,rfl⟩:=hv.shape
 refine hE.go sO (by decide) rfl ?_
 obtain⟨n1,o1,g1,g2⟩:=EO s (BQ x (.slice a n c) (.slice b m d)) ZL
 simp only[wz,nU,nW,Xa,Xh,El,Xc,Aq,Qa,Qb,Qc,Qd,Qf,Qh,Qj,Qk,Ql,Qm,Qo,true_and,Qp,Qq,Qr,Qs,Qt,Qv,Rb,Rh,Rj]
 generalize newObj (newObj s (BQ x (.slice a n c) (.slice b m d))) ZL=s1 at *
 have l1:=AT (P:=Tryz.prog) (t:=26) Bt A9 g1 rfl
 simp only[l1,Qm]
 refine L6 hE (hv.old o1) hk1 hk fun s2 w2 o2 r2=>?_
 have f2:=(o2.2 (s.next+1) (by omega)).trans g2
 obtain⟨a2,n2,c2,b2,m2,d2,rfl⟩:=r2.shape
 obtain⟨st,ld⟩:=CF (cs0:=[.bool false,.slice none 0 (some 0),.slice none 0 (some 0),.slice none 0 (some 0),.slice none 0 (some 0)]) rfl (x:=decide (C.num<0)) (a:=a2) (n:=n2) (c:=c2) (b:=b2) (m:=m2) (d:=d2) (av:=none) (nv:=0) (cv:=some 0) (ac:=none) (nc:=0) (cc:=some 0) f2
 simp only[La,st,ld,AQ,Xy,Za,Qd,Qj,Qm,Qo,true_and,Qr,Qs,Rk,Rn,Yc]
 exact hK _ _ ((o1.trans (o2.mono o1.1)).set (by omega) _) (LC.empty (r2.box f2 rfl))
theorem Ju(hE:GoodN E){v:AV}{C:Rat}{vs:List Int}{cs:List Rat}{kl N B:Nat}(hl:LI s v C vs cs kl)(hkl:1≤kl)(hN:min vs.length cs.length≤N)(hN':N≤1000)(hB:(N+1) * (kl+1)≤B)(hB':B≤1400000)(hvl:vs.length≤1000000){K:AV→AE→Prop}
  (hK:∀s' w L,Af s.next s s'→LC s.next s' w C L→Can L→(∀a,Eg a L=Cq a vs cs)→L.length≤N→QH C kl→(∀p∈L,QH p.2 B)→K w s'):WF E 43 [v] K s:=by
 have h1:(min vs.length cs.length+1) * (kl+1)≤B:=xh (yA _ (by omega)) hB
 exact fC hE hl hkl (by omega) (by omega) hvl fun s' w L o h hc he hlen hC hq=>hK s' w L o h hc he (by omega) hC fun p hp=>(hq p hp).le h1
end
end
end Go.Proofs.YtjnkfbpadpmakaaGreatDoor.Am
set_option linter.unusedVariables false
set_option linter.unusedSimpArgs false
set_option maxRecDepth 16000
set_option maxHeartbeats 2000000
namespace Go.Proofs.YtjnkfbpadpmakaaGreatDoor.Am
open Go Go.Proofs
noncomputable section
theorem QC.keep{s s':AE}{v:AV}{q:Rat}(h:QC s v q)(hn:s.next≤s'.next)(hf:∀j∈Dd v,j<s.next→s'.heap.get j=s.heap.get j):QC s' v q:=by
 obtain⟨m,d,rfl,h2,h3⟩:=h
 exact⟨m,d,rfl,h2.keep hn fun j hj=>hf j ((CW rfl).2 (.inl hj)),h3.keep hn fun j hj=>hf j ((CW rfl).2 (.inr hj))⟩
structure GD(s:AE)(p:Nat)(v:AV)(cs:List Rat)(cells:List AV)(O:List Nat):Prop where
 hd:CM 26 s v cs.length 3 cells O
 lo:∀j∈O,p<j
 sl:∀j,By v=some j→p<j
 rat:∀ (i:Nat) (q:Rat),cs[i]? = some q→QC s (.agg ((cells.drop (i * 3)).take 3)) q∧∀j∈Dd (.agg ((cells.drop (i * 3)).take 3)),j<s.next∧j ∉ O
theorem GD.nil(s:AE)(p:Nat):GD s p (.slice none 0 (some 0)) [] [] []:=⟨CM.nil s 3,fun j h=>(by cases h),fun j h=>(by cases h),fun i q h=>(by cases h)⟩
theorem GD.old{s s':AE}{p:Nat}{v:AV}{cs:List Rat}{cells:List AV}{O:List Nat}(h:GD s p v cs cells O)(o:Af s.next s s')(hs:∀j,By v=some j→j<s.next):GD s' p v cs cells O:=
 ⟨h.hd.frame o.1 fun j hj=>o.2 j (hs j hj),h.lo,h.sl,fun i q hi=>⟨(h.rat i q hi).1.old o,fun j hj=>⟨xi ((h.rat i q hi).2 j hj).1 o.1,((h.rat i q hi).2 j hj).2⟩⟩⟩
theorem CM.slot_lt{e:TypeId}{s:AE}{v:AV}{n sz:Nat}{cs:List AV}{O:List Nat}(h:CM e s v n sz cs O):∀j,By v=some j→j<s.next:=fun j hj=>by
 rcases h with⟨a,rfl,_,_,_,h5⟩ | ⟨i,p,rfl,h6,_⟩
 ·cases a with
  | none=>cases hj
  | some io=>obtain⟨i,o⟩:=io;injection hj with hj;subst hj;exact(h5 i o rfl).1
 ·injection hj with hj
  subst hj
  rcases h6.ex with⟨e',_⟩ | ⟨_,_,k2,_⟩
  ·cases e'
  ·exact k2
theorem GD.push {s : AE}  {p : Nat} {v : AV} {cs : List Rat} {cells : List AV} {O : List Nat} (h : GD s p v cs cells O) {r : Nat} {x : Bool} {a b : Option (Nat × Nat)} {n m : Nat} {c d : Option Nat} (hg : s.heap.get r = some (R 26 3 false [.bool x, .slice a n c, .slice b m d])) (hr : r < s.next) {q : Rat} (hq : QC s (.agg [.bool x, .slice a n c, .slice b m d]) q)
    (hqs:∀j∈Dd (.agg [.bool x,.slice a n c,.slice b m d]),j<s.next∧j ∉ O) (hp:p<s.next) (hl:cs.length≤100000):
    ∃v' s' O',Ar Tryz.prog s [28,28] [v,.slice (some (r,0)) 1 (some 1)]=some (v',s')∧GD s' p v' (cs++[q]) (cells++[.bool x,.slice a n c,.slice b m d]) O'∧s.next≤s'.next∧(∀j,j<s.next→j ∉ O→s'.heap.get j=s.heap.get j∧j ∉ O'):=by
  obtain⟨v',s',O',happ,hd',hn',hf',hO',hs'⟩:=HX (cap:=some 1) h.hd (Cg.one hr hg hq) (by rfl:[q].length=1) (by omega) (by omega)
  have hl1:=h.hd.len
  have hnO:∀j,j<s.next→j ∉ O→j ∉ O':=fun j h1 h2 h3=>by
    rcases hO' j h3 with h4 | h4
    · exact h2 h4
    · omega
  refine⟨v',s',O',happ,⟨by rw[xp];exact hd',fun j hj=>?_,fun j hj=>?_,fun i r hi=>?_⟩,hn',fun j h1 h2=>⟨hf' j h1 h2,hnO j h1 h2⟩⟩
  · rcases hO' j hj with h1 | h1
    · exact h.lo j h1
    · omega
  · rcases hs' j hj with h1 | h1
    · exact h.sl j h1
    · omega
  · rcases xf           i cs.length with hi' | hi'
    · rw [yf                        hi'] at hi
      rw[A0I (by omega),A0N (by rw[yL];omega)]
      obtain⟨k1,k2⟩:=h.rat i r hi
      exact⟨k1.keep hn' fun j hj hlt=>hf' j hlt (k2 j hj).2,fun j hj=>⟨xi (k2 j hj).1 hn',hnO j (k2 j hj).1 (k2 j hj).2⟩⟩
    · rw[yi hi']at hi
      have hi0:i - cs.length=0:=by
        rcases yX (i - cs.length)with h0 | h0
        · exact h0
        · rw[xr (by simp;omega)]at hi;cases hi
      rw[hi0]at hi
      injection hi with hi
      subst hi
      have e:(cells++[AV.bool x,AV.slice a n c,AV.slice b m d]).drop (i * 3)=[AV.bool x,AV.slice a n c,AV.slice b m d]:=by
        rw[List.drop_append,yQ (by omega),zq,show i * 3 - cells.length=0 by omega];rfl
      rw[e]
      exact⟨hq.keep hn' fun j hj hlt=>hf' j hlt (hqs j hj).2,fun j hj=>⟨xi (hqs j hj).1 hn',hnO j (hqs j hj).1 (hqs j hj).2⟩⟩
theorem GD.set{s:AE}{p:Nat}{v:AV}{cs:List Rat}{cells:List AV}{O:List Nat}(h:GD s p v cs cells O){e:Nat}{sp:Bool}{cs0:List AV}{o:BD}(hg:s.heap.get p=some (R e 0 sp cs0))(hc:cs0.all Kd=true):GD (setObj s p o) p v cs cells O:=
 ⟨h.hd.frame (xZ _) fun j hj=>Wx _ (by have:=h.sl j hj;omega),h.lo,h.sl,fun i q hi=>⟨(h.rat i q hi).1.box hg hc,(h.rat i q hi).2⟩⟩
theorem GD.rats{s:AE}{p:Nat}{v:AV}{cs:List Rat}{cells:List AV}{O:List Nat}(h:GD s p v cs cells O):∃a cap,v=.slice a cs.length cap∧Cg s a cs cells∧EC 3 s a cap cs.length:=by
 obtain⟨a,cap,e,hc⟩:=h.hd.cells
 exact⟨a,cap,e,⟨h.hd.len,hc,fun i q hi=>(h.rat i q hi).1⟩,h.hd.capZ a cap e⟩
theorem Nu(a:Int→Rat)(o:Rat):∀ (vs:List Int)(cs:List Rat),Cq a vs (cs.map (· * o))=Cq a vs cs * o
 | [],cs=>by show 0=0 * o;rw[Rat.zero_mul]
 | n::vs,[]=>by show 0=0 * o;rw[Rat.zero_mul]
 | n::vs,c::cs=>by
  show c * o * a n+Cq a vs (cs.map (· * o))=(c * a n+Cq a vs cs) * o
  rw[Nu a o vs cs]
  generalize Cq a vs cs=z
  generalize a n=w
  grind
section
variable{E:CU}{s:AE}
theorem Si(hE:GoodN E){S0:AE}{p2 p3 p5:Nat}{x2 x3:Bool}{A1 A2 A3:AV}{ac:Option (Nat×Nat)}{cc:Option Nat}{cs:List Rat}{cells:List AV}{kc ko:Nat}{o:Rat}{ob od:Option (Nat×Nat)}{on om:Nat}{oc oe:Option Nat}
  (g2:S0.heap.get p2=some (BL x2 A1 A2 A3 (.slice ac cs.length cc))) (h2:p2<S0.next) (hr:Ej S0 ac cs kc cells) (g3:S0.heap.get p3=some (BQ x3 (.slice ob on oc) (.slice od om oe))) (h3:p3<S0.next) (hby:QI S0 (.agg [.bool x3,.slice ob on oc,.slice od om oe]) o ko) (hkc:1≤kc) (hko:1≤ko) (hk:kc+ko≤1400000) (hcl:cs.length≤100000) (h5:S0.next≤p5)
  {x5:Bool} {a5 b5 v5:Option (Nat×Nat)} {n5 m5 l5:Nat} {c5 d5 e5:Option Nat} {qC:Rat} {y0 y1 y4:AV} {Q:Ay→Prop}
  (hq:∀S cv cells' O y7,Af S0.next S0 S→p5<S.next→S.heap.get p5=some (BL x5 (.slice a5 n5 c5) (.slice b5 m5 d5) (.slice v5 l5 e5) cv)→GD S p5 cv (cs.map (· * o)) cells' O→QC S (.agg [.bool x5,.slice a5 n5 c5,.slice b5 m5 d5]) qC→Q ⟨.exit 0,[y0,y1,.ptr (some (p2,0)),.ptr (some (p3,0)),y4,.ptr (some (p5,0)),iv (cs.length:Int),y7],[],S⟩):
  ∀ (r i:Nat) (S:AE) (cv:AV) (cells':List AV) (O:List Nat) (z7:AV),cs.length - i=r→i≤cs.length→Af S0.next S0 S→p5<S.next→S.heap.get p5=some (BL x5 (.slice a5 n5 c5) (.slice b5 m5 d5) (.slice v5 l5 e5) cv)→GD S p5 cv ((cs.take i).map (· * o)) cells' O→QC S (.agg [.bool x5,.slice a5 n5 c5,.slice b5 m5 d5]) qC→(∀j∈Dd (.agg [.bool x5,.slice a5 n5 c5,.slice b5 m5 d5]),j<S.next∧j ∉ O) →
   WC E none (.loop Q2) Q [y0,y1,.ptr (some (p2,0)),.ptr (some (p3,0)),y4,.ptr (some (p5,0)),iv (i:Int),z7] [] S:=by
 intro r
 induction r with
 | zero =>
  intro i S cv cells' O z7 hi hle ho hp5 g5 hG hC hCs
  have e:i=cs.length:=by omega
  subst e
  rw[zP]at hG
  have l1:=AI (P:=Tryz.prog) (t:=28) (o:=0+4) Eb ((ho.2 p2 h2).trans g2) rfl
  have dd:decide ((cs.length:Int)<(cs.length:Int))=false:=decide_eq_false (by omega)
  refine WC.loop' ?_
  simp only[Q2,cU,l1,C0,AH Tryz.underlying28,Ry,dd,Qa,Qb,Qc,Qd,Qf,Qh,Qj,Qk,Qm,Qo,true_and,Qp,Qq,Qr,Qs,Qt,Qv,Ra,Rb,Rd,Re,Ry]
  exact hq S cv cells' O _ ho hp5 g5 hG hC
 | succ r ih =>
  intro i S cv cells' O z7 hi hle ho hp5 g5 hG hC hCs
  have hlt:i<cs.length:=by omega
  have l1:=AI (P:=Tryz.prog) (t:=28) (o:=0+4) Eb ((ho.2 p2 h2).trans g2) rfl
  have lq5:=AI (P:=Tryz.prog) (t:=28) (o:=0+4) Eb g5 rfl
  have l3:=AT (P:=Tryz.prog) (t:=26) Bt A9 ((ho.2 p3 h3).trans g3) rfl
  have dd:decide ((i:Int)<(cs.length:Int))=true:=decide_eq_true (by omega)
  have e17:=Az Tryz.prog 3 (i:Int) 1 ⟨by omega,by omega⟩
  have e17':((i:Int)+1)=((i+1:Nat):Int):=by omega
  have hx:cs[i]? = some cs[i]:=xe hlt
  obtain⟨i1,o1,rfl,hi1,lr⟩:=hr.load hlt
  have lr':=EL Bt ho hi1 lr
  have ixr:=Ae (cap:=cc) (i:=i1) (o:=o1) (n:=3) Tryz.underlying28 A9 hlt
  obtain⟨acv,ccv,ecv,_⟩:=hG.rats
  refine WC.loop' ?_
  generalize hW:WC E none (Aa.loop Q2) Q=WW
  simp only[Q2,cU,mJ,l1,lq5,l3,C0,AH Tryz.underlying28,Ry,dd,ixr,lr',Qa,Qb,Qc,Qd,Qf,Qh,Qj,Qk,Qm,Qo,true_and,Qp,Qq,Qr,Qs,Qt,Qv,Qz,Rb,Rd,Re,Ry]
  refine RS hE ((hr.rat i cs[i] hx).old ho) (hby.old ho) hkc hko (by omega) fun S1 w o1' r1 b1=>?_
  have hS1:=o1'.1
  have g51:=(o1'.2 p5 hp5).trans g5
  have l51:=AI (P:=Tryz.prog) (t:=28) (o:=0+4) Eb g51 rfl
  refine⟨⟨by rw[C7];simp only[Qk,Qr,Qs];rw[l51,BY,ecv];exact BJ _ _ _,trivial⟩,?_⟩
  have hG1:=hG.old o1' (hG.hd.slot_lt)
  obtain⟨wa,wn,wc,wb,wm,wd,rfl⟩:=r1.shape
  obtain⟨n2,o2,gr2⟩:=CC S1 (R 26 3 false [.bool (decide ((cs[i] * o).num<0)),.slice wa wn wc,.slice wb wm wd])
  simp only[JS,Xe,Qm,Qr,Qs,Yc]
  have hG2:=hG1.old o2 (hG1.hd.slot_lt)
  have r2:=r1.old o2
  generalize newObj S1 (R 26 3 false [.bool (decide ((cs[i] * o).num<0)),.slice wa wn wc,.slice wb wm wd])=S2 at *
  obtain⟨v3,S3,O3,happ,hG3,hn3,hf3⟩:=hG2.push gr2 (by omega) r2 (fun j hj=>by
   have h1:=b1 j hj
   exact⟨by omega,fun h'=>by have:=hG.hd.lt j h';omega⟩) (by omega) (by rw[yE,xz];omega)
  have g53:S3.heap.get p5=some (BL x5 (.slice a5 n5 c5) (.slice b5 m5 d5) (.slice v5 l5 e5) cv):=by
   rw[(hf3 p5 (by omega) (fun h'=>by have:=hG.lo p5 h';omega)).1,o2.2 p5 (by omega)];exact g51
  obtain⟨a3,c3,e3,_⟩:=hG3.rats
  have st:=Bn (P:=Tryz.prog) (t:=28) (o:=0+4) (v:=v3) kI g53 (by simp) (by rw[e3];rfl)
  simp only[happ,st,C0,mK,e17,e17',Xy,Za,Qb,Qc,Qd,Qf,Qh,Qi,Qj,Qk,Qm,Qo,true_and,Qp,Qq,Qr,Qs,Qt,Qv]
  have hS3n:p5<S3.next:=by omega
  have he:(cs.take (i+1)).map (· * o)=(cs.take i).map (· * o)++[cs[i] * o]:=by rw[A0D hlt,zj];rfl
  have hold:Af S0.next S0 S3:=⟨by have:=ho.1;omega,fun j hj=>by
   have:=ho.1
   rw[(hf3 j (by omega) (fun h'=>by have:=hG.lo j h';omega)).1,o2.2 j (by omega),o1'.2 j (by omega),ho.2 j hj]⟩
  rw[← hW]
  have hCs2:∀j∈Dd (.agg [.bool x5,.slice a5 n5 c5,.slice b5 m5 d5]),j<S2.next∧j ∉ O:=fun j hj=>⟨by have:=(hCs j hj).1;omega,(hCs j hj).2⟩
  refine ih (i+1) _ v3 (cells'++[.bool (decide ((cs[i] * o).num<0)),.slice wa wn wc,.slice wb wm wd]) O3 _ (by omega) (by omega) (hold.set h5 _) hS3n (Ww _ _ _) ?_ ((((hC.old o1').old o2).keep hn3 fun j hj hlt=>(hf3 j hlt (hCs2 j hj).2).1).box g53 (by rw[ecv];rfl)) fun j hj=>⟨xi (hCs2 j hj).1 hn3,(hf3 j (hCs2 j hj).1 (hCs2 j hj).2).2⟩
  rw[he]
  exact hG3.set g53 (by rw[ecv];rfl)
theorem Nh(hE:GoodN E){v vo:AV}{C o:Rat}{vs:List Int}{cs:List Rat}{kl ko N B1 B:Nat}(hl:LI s v C vs cs kl)(ho:QI s vo o ko)(hkl:1≤kl)(hko:1≤ko)(hN:min vs.length cs.length≤N)(hN':N≤1000)(hB1:(N+1) * (kl+1)≤B1)(hB:(N+1) * (B1+ko+1)≤B)(hB':B≤1400000)(hvl:vs.length≤1000000){K:AV→AE→Prop}
  (hK:∀s' w L,Af s.next s s'→LC s.next s' w (C * o) L→Can L→(∀a,Eg a L=Cq a vs cs * o)→L.length≤N→QH (C * o) B→(∀p∈L,QH p.2 B)→K w s'):WF E 37 [v,vo] K s:=by
 have hB2:B1+ko+1≤B:=xh (zM _ (by omega)) hB
 have hB3:kl+1≤B1:=xh (zM _ (by omega)) hB1
 obtain⟨x,a,n,c,b,m,d,av,nv,cv,ac,nc,cc,rfl⟩:=hl.shape
 obtain⟨x3,ob,on,oc,od,om,oe,rfl⟩:=ho.shape
 refine hE.go rv (by decide) rfl ?_
 obtain⟨n1,o1,g1,g2,g3⟩:=J5 s (BL x (.slice a n c) (.slice b m d) (.slice av nv cv) (.slice ac nc cc)) (BQ x3 (.slice ob on oc) (.slice od om oe)) ZL
 simp only[we,mF,mG,Xa,Xh,El,Xc,Aq,Qa,Qb,Qc,Qd,Qf,Qh,Qj,Qk,Ql,Qm,Qo,true_and,Qp,Qq,Qr,Qs,Qt,Qv,Rb,Rh]
 generalize newObj (newObj (newObj s (BL x (.slice a n c) (.slice b m d) (.slice av nv cv) (.slice ac nc cc))) (BQ x3 (.slice ob on oc) (.slice od om oe))) ZL=s1 at *
 have l1:=AT (P:=Tryz.prog) (t:=30) GJ Fk g1 rfl
 simp only[l1,Qm]
 refine Ju hE (hl.old o1) hkl hN hN' hB1 (by omega) hvl fun s2 w2 L o2 hL hcan hev hLl hCq hLq=>?_
 have h2:=o2.1
 have f1:=(o2.2 s.next (by omega)).trans g1
 have f2:=(o2.2 (s.next+1) (by omega)).trans g2
 have f3:=(o2.2 (s.next+1+1) (by omega)).trans g3
 obtain⟨x2,a2,n2,c2,b2,m2,d2,av2,cv2,ac2,cc2,cells2,rfl,hC2,hP2,hb2,hb2'⟩:=hL
 obtain⟨st,_⟩:=CF (cs0:=[.bool x,.slice a n c,.slice b m d,.slice av nv cv,.slice ac nc cc]) rfl (x:=x2) (a:=a2) (n:=n2) (c:=c2) (b:=b2) (m:=m2) (d:=d2) (av:=av2) (nv:=(L.map (·.1)).length) (cv:=cv2) (ac:=ac2) (nc:=(L.map (·.2)).length) (cc:=cc2) f1
 have hC3:=hC2.box (o:=BL x2 (.slice a2 n2 c2) (.slice b2 m2 d2) (.slice av2 (L.map (·.1)).length cv2) (.slice ac2 (L.map (·.2)).length cc2)) f1 rfl
 have hP3:=hP2.set (o:=BL x2 (.slice a2 n2 c2) (.slice b2 m2 d2) (.slice av2 (L.map (·.1)).length cv2) (.slice ac2 (L.map (·.2)).length cc2)) f1 rfl (fun i q h=>by have:=hb2 i q h;omega) (fun i q h=>by have:=hb2' i q h;omega)
 simp only[mH,st,Xy,Za,Qb,Qc,Qd,Qf,Qh,Qj,Qk,Qm,Qo,true_and,Qp,Qq,Qr,Qs,Qt,Qv]
 generalize hs3:setObj s2 s.next (BL x2 (.slice a2 n2 c2) (.slice b2 m2 d2) (.slice av2 (L.map (·.1)).length cv2) (.slice ac2 (L.map (·.2)).length cc2))=s3 at *
 have n3:s3.next=s2.next:=by rw[← hs3];rfl
 have k1:s3.heap.get s.next=some (BL x2 (.slice a2 n2 c2) (.slice b2 m2 d2) (.slice av2 (L.map (·.1)).length cv2) (.slice ac2 (L.map (·.2)).length cc2)):=by rw[← hs3,Ww]
 have k2:s3.heap.get (s.next+1)=some (BQ x3 (.slice ob on oc) (.slice od om oe)):=by rw[← hs3,Wx _ (by omega)];exact f2
 have k3:s3.heap.get (s.next+1+1)=some ZL:=by rw[← hs3,Wx _ (by omega)];exact f3
 have o13:Af s.next s s3:=by rw[← hs3];exact(o1.trans (o2.mono o1.1)).set (xZ _) _
 have lc:AC Tryz.prog s3 26 (.ptr (some (s.next,0+0)))=some (.agg [.bool x2,.slice a2 n2 c2,.slice b2 m2 d2]):=Av (o:=0) (n:=3) Bt A9 k1 (by simp)
 have lo:=AT (P:=Tryz.prog) (t:=26) Bt A9 k2 rfl
 have lv:=AI (P:=Tryz.prog) (t:=27) (o:=0+3) Fc k1 rfl
 have hr2:=hP3.rs.at (k:=B1) fun q hq=>by obtain⟨p,hp,rfl⟩:=List.mem_map.1 hq;exact hLq p hp
 obtain⟨n4,o4,g4⟩:=CC s3 ZL
 simp only[lc,lo,lv,IP,Cz,El,Xc,Qm]
 generalize newObj s3 ZL=s4 at *
 refine RS hE ((hC3.old o4).qi hCq) ((ho.old o13).old o4) hkl hko (by omega) fun s5 w5 o5 r5 bd5=>?_
 have h5:=o5.1
 have o35:Af s3.next s3 s5:=o4.trans (o5.mono o4.1)
 have lv':=AI (P:=Tryz.prog) (t:=27) (o:=0+3) Fc ((o35.2 s.next (by omega)).trans k1) rfl
 refine⟨⟨by rw[C7];simp only[Qk,Qr,Qs];rw[lv',BY];exact BJ _ _ _,trivial⟩,?_⟩
 have f5:=(o5.2 s3.next (by omega)).trans g4
 obtain⟨a5,n5,c5,b5,m5,d5,rfl⟩:=r5.shape
 obtain⟨st5,_⟩:=CF (cs0:=[.bool false,.slice none 0 (some 0),.slice none 0 (some 0),.slice none 0 (some 0),.slice none 0 (some 0)]) rfl (x:=decide ((C * o).num<0)) (a:=a5) (n:=n5) (c:=c5) (b:=b5) (m:=m5) (d:=d5) (av:=av2) (nv:=(L.map (·.1)).length) (cv:=cv2) (ac:=none) (nc:=0) (cc:=some 0) f5
 simp only[QP,st5,mI,Qb,Qc,Qd,Qf,Qh,Qi,Qm,Qo,true_and,Qp,Qq,Qr,Qs,Qt,Qv]
 have hLl2:(L.map (·.2)).length≤1000:=by rw[yE];omega
 refine Si hE (S0:=s3) (p2:=s.next) (p3:=s.next+1) (p5:=s3.next) (cs:=L.map (·.2)) (kc:=B1) (ko:=ko) (o:=o) k1 (by omega) hr2 k2 (by omega) (ho.old o13) (by omega) hko (by omega) (by omega) (xZ _) (qC:=C * o) (fun S cv cells' O y7 oS hS gS hG hCS=>?_) _ 0 (setObj s5 s3.next (BL (decide ((C * o).num<0)) (.slice a5 n5 c5) (.slice b5 m5 d5) (.slice av2 (L.map (·.1)).length cv2) (.slice none 0 (some 0)))) _ [] [] _ rfl (xg _) (o35.set (xZ _) _) (by show s3.next<s5.next;omega) (Ww _ _ _) (GD.nil _ _) (r5.box f5 rfl) (fun j hj=>⟨(bd5 j hj).2,fun h=>(by cases h)⟩)
 obtain⟨acv,ccv,rfl,hrS,hzS⟩:=hG.rats
 have lS:=AT (P:=Tryz.prog) (t:=30) GJ Fk gS rfl
 have hPS:=hP3.old oS
 have hCo:QH (C * o) (kl+ko):=QH.mul hCq (ho.qh hko)
 have hLS:LI S (.agg [.bool (decide ((C * o).num<0)),.slice a5 n5 c5,.slice b5 m5 d5,.slice av2 (L.map (·.1)).length cv2,.slice acv ((L.map (·.2)).map (· * o)).length ccv]) (C * o) (L.map (·.1)) ((L.map (·.2)).map (· * o)) (B1+ko):=
  ⟨_,_,_,_,_,_,_,_,_,_,_,_,rfl,hCS.qi (hCo.le (by omega)),hPS.vc,hPS.vi,hrS.at (fun q hq=>by
   obtain⟨r,hr,rfl⟩:=List.mem_map.1 hq
   obtain⟨p,hp,rfl⟩:=List.mem_map.1 hr
   exact QH.mul (hLq p hp) (ho.qh hko)),hPS.vz,hzS⟩
 simp only[mL,if_true,lS,Qb,Qc,Qd,Qf,Qh,Qj,Qk,Qm,Qo,true_and,Qr,Qs,Qt,Qv,Rb,Rd,Rg,Rj]
 refine Ju hE hLS (by omega) (N:=N) (by rw[yE];omega) hN' hB hB' (by rw[yE];omega) fun S' w' L' oS' hL' hcan' hev' hLl' hCq' hLq'=>?_
 have o1S:Af s.next s S:=o13.trans (oS.mono o13.1)
 have h3S:=oS.1
 have f9:=(oS'.2 (s.next+1+1) (by omega)).trans ((oS.2 _ (by omega)).trans k3)
 obtain⟨x9,a9,n9,c9,b9,m9,d9,av9,cv9,ac9,cc9,rfl⟩:=hL'.shape
 obtain⟨st9,ld9⟩:=CF (cs0:=[.bool false,.slice none 0 (some 0),.slice none 0 (some 0),.slice none 0 (some 0),.slice none 0 (some 0)]) rfl (x:=x9) (a:=a9) (n:=n9) (c:=c9) (b:=b9) (m:=m9) (d:=d9) (av:=av9) (nv:=(L'.map (·.1)).length) (cv:=cv9) (ac:=ac9) (nc:=(L'.map (·.2)).length) (cc:=cc9) f9
 simp only[st9,ld9,AQ,Xy,Za,Qd,Qj,Qm,Qo,true_and,Qr,Qs,Rk,Rn,Yc]
 refine hK _ _ L' ((o1S.trans (oS'.mono o1S.1)).set (by omega) _) ((hL'.set (by omega) f9 rfl).mono (by have:=o1S.1;omega)) hcan' (fun f=>?_) hLl' (hCo.le (by omega)) hLq'
 rw[hev' f,Nu,HG,hev f]
end
end
end Go.Proofs.YtjnkfbpadpmakaaGreatDoor.Am
set_option linter.unusedVariables false
set_option linter.unusedSimpArgs false
set_option maxRecDepth 16000
namespace Go.Proofs.YtjnkfbpadpmakaaGreatDoor.Am
open Go Go.Proofs
noncomputable section
theorem XI{u a e d:Nat}(h1:Nat.Coprime u d)(h2:Nat.Coprime a e)(h3:Nat.Coprime e d):Nat.gcd (u * e) (a * d)=Nat.gcd u a:=by
 rw[Nat.Coprime.gcd_mul_right_cancel u (show Nat.Coprime e (a * d)from Nat.Coprime.mul_right h2.symm h3),Nat.Coprime.gcd_mul_right_cancel_right a h1.symm]
theorem gY{u a d e P:Nat}(hu:Nat.Coprime u d)(ha:Nat.Coprime a e)(hd:d ∣ P)(he:e ∣ P)(hP:0<P):
  Nat.gcd (u * (P / d)) (a * (P / e))=Nat.gcd u a * (P / (d * (e / Nat.gcd e d)))∧d * (e / Nat.gcd e d) ∣ P∧Nat.Coprime (Nat.gcd u a) (d * (e / Nat.gcd e d)):=by
 have hd0:0<d:=Nat.pos_of_dvd_of_pos hd hP
 have he0:0<e:=Nat.pos_of_dvd_of_pos he hP
 have hg:0<Nat.gcd e d:=Nat.gcd_pos_of_pos_left d he0
 obtain⟨e',he'⟩:∃e',e=Nat.gcd e d * e':=A0C e d
 obtain⟨d',hd'⟩:∃d',d=Nat.gcd e d * d':=Nat.gcd_dvd_right e d
 have hcop:Nat.Coprime e' d':=by
  have h1:Nat.gcd e d * 1=Nat.gcd e d * Nat.gcd e' d':=by
   rw[← Nat.gcd_mul_left,← he',← hd',xj]
  exact(Nat.eq_of_mul_eq_mul_left hg h1).symm
 generalize Nat.gcd e d=g at *
 have hq:e / g=e':=by rw[he',ze _ hg]
 rw[hq]
 have hl:d * e' ∣ P:=by
  obtain⟨x,hx⟩:=hd
  obtain⟨y,hy⟩:=he
  have h1:d' * x=e' * y:=by
   refine Nat.eq_of_mul_eq_mul_left hg ?_
   rw[← xw,← xw,← hd',← he',← hx,hy]
  have h2:e' ∣ x:=Nat.Coprime.dvd_of_dvd_mul_left hcop (by rw[h1];exact Nat.dvd_mul_right _ _)
  obtain⟨z,hz⟩:=h2
  exact⟨z,by rw[hx,hz,xw]⟩
 refine⟨?_,hl,?_⟩
 ·obtain⟨t,ht⟩:=hl
  have he1:0<e':=A0M fun h=>by rw[h]at he';omega
  have H4:0<d':=A0M fun h=>by rw[h]at hd';omega
  have e1:P / d=e' * t:=by rw[ht,xw,ze _ hd0]
  have e2:P / e=d' * t:=by
   rw[ht,hd',show g * d' * e' * t=e * (d' * t) by rw[he'];simp only[xy,A0A],ze _ he0]
  have e3:P / (d * e')=t:=by rw[ht,ze _ (zA hd0 he1)]
  rw[e1,e2,e3,← xw,← xw,Nat.gcd_mul_right,XI (Nat.Coprime.coprime_dvd_right ⟨g,by rw[xy];exact hd'⟩ hu) (Nat.Coprime.coprime_dvd_right ⟨g,by rw[xy];exact he'⟩ ha) hcop]
 ·refine Nat.Coprime.mul_right (Nat.Coprime.coprime_dvd_left (A0C u a) hu) ?_
  exact Nat.Coprime.coprime_dvd_left (Nat.gcd_dvd_right u a) (Nat.Coprime.coprime_dvd_right ⟨g,by rw[xy];exact he'⟩ ha)
def UY(o:Rat)(L:List (Int×Rat)):List (Int×Rat):=L.map fun p=>(p.1,p.2 * o)
theorem RO(a:Int→Rat)(o:Rat):∀L:List (Int×Rat),Eg a (UY o L)=Eg a L * o
 | []=>by show 0=0 * o;rw[Rat.zero_mul]
 | p::L=>by
  show p.2 * o * a p.1+Eg a (UY o L)=(p.2 * a p.1+Eg a L) * o
  rw[RO a o L]
  generalize Eg a L=z
  generalize a p.1=w
  grind
theorem RF{o:Rat}(ho:o≠0){L:List (Int×Rat)}(h:Can L):Can (UY o L):=by
 refine⟨?_,fun p hp=>?_⟩
 ·unfold UY
  rw[yr]
  exact h.1
 ·obtain⟨q,hq,rfl⟩:=List.mem_map.1 hp
  intro e
  rcases Rat.mul_eq_zero.1 e with e | e
  ·exact h.2 q hq e
  ·exact ho e
def Dg:List (Int×Rat)→Nat
 | []=>1
 | p::L=>p.2.den * Dg L
theorem Nf:∀L:List (Int×Rat),0<Dg L
 | []=>Nat.one_pos
 | p::L=>zA p.2.den_pos (Nf L)
theorem Lz:∀ (L:List (Int×Rat))(p:Int×Rat),Dg (L++[p])=Dg L * p.2.den
 | [],p=>by show p.2.den * 1=1 * p.2.den;rw[xj,ye]
 | q::L,p=>by show q.2.den * Dg (L++[p])=q.2.den * Dg L * p.2.den;rw[Lz L p,xw]
theorem Nd:∀ {L:List (Int×Rat)}{p:Int×Rat},p∈L→p.2.den ∣ Dg L
 | q::L,p,h=>by
  rcases List.mem_cons.1 h with rfl | h
  ·exact Nat.dvd_mul_right _ _
  ·exact Nat.dvd_trans (Nd h) (Nat.dvd_mul_left _ _)
theorem ju{q:Rat}{P:Nat}(h:q.den ∣ P)(hP:0<P):(q * ((P:Int):Rat)).num.natAbs=q.num.natAbs * (P / q.den):=by
 obtain⟨t,ht⟩:=h
 have hd:=q.den_pos
 have e:q * ((P:Int):Rat)=(((q.num * (t:Int)):Int):Rat):=by
  have h1:mkRat q.num q.den=q:=Rat.mkRat_self q
  have h2:((P:Int):Rat)=mkRat (P:Int) 1:=(Rat.mkRat_one _).symm
  conv=>lhs;rw[← h1,h2]
  rw[Rat.mkRat_mul_mkRat,xj,ht]
  rw[← Rat.mkRat_one,Rat.mkRat_eq_iff (by omega) (by decide)]
  simp only[zz]
  have:((q.den:Nat):Int)=(q.den:Int):=rfl
  rw[Int.mul_assoc,Int.mul_comm (q.den:Int) (t:Int),← Int.mul_assoc]
  simp
  exact(Int.mul_assoc _ _ _).symm
 rw[e,Rat.num_intCast,zf,ht,ze _ hd]
 rfl
theorem NB{P:Nat}(hP:0<P):∀ (L:List (Int×Rat))(u d:Nat),Nat.Coprime u d→d ∣ P→(∀p∈L,p.2.den ∣ P)→GF (UY ((P:Int):Rat) L) (u * (P / d))=GF L u * (P / Ku L d)∧Ku L d ∣ P
 | [],u,d,_,hd,_=>⟨rfl,hd⟩
 | p::L,u,d,hu,hd,hL=>by
  have hp:=hL p (yC ..)
  obtain⟨h1,h2,h3⟩:=gY hu (show Nat.Coprime p.2.num.natAbs p.2.den from p.2.reduced) hd hp hP
  show GF (UY ((P:Int):Rat) L) (Nat.gcd (u * (P / d)) (p.2 * ((P:Int):Rat)).num.natAbs)=GF L (Nat.gcd u p.2.num.natAbs) * (P / Ku L (d * (p.2.den / Nat.gcd p.2.den d)))∧_
  rw[ju hp hP,h1]
  exact NB hP L _ _ h3 h2 fun q hq=>hL q (yK _ hq)
theorem P3:∀ (L:List (Int×Rat))(u:Nat),(0<u∨(L≠[]∧∀p∈L,p.2≠0))→0<GF L u
 | [],u,h=>by
  rcases h with h | h
  ·exact h
  ·exact absurd rfl h.1
 | p::L,u,h=>by
  refine P3 L (Nat.gcd u p.2.num.natAbs) (.inl ?_)
  rcases h with h | h
  ·exact Nat.gcd_pos_of_pos_left _ h
  ·refine Nat.gcd_pos_of_pos_right _ ?_
   have:=h.2 p (yC ..)
   have h0:p.2.num≠0:=fun e=>this (Rat.num_eq_zero.1 e)
   omega
theorem Sa(P:Nat):Cb false P 0=((P:Int):Rat):=by
 unfold Cb Bx Ci
 rw[if_pos rfl,if_neg (by decide),Rat.mkRat_one]
theorem Xp{D U P G:Nat}(hU:0<U)(hG:0<G)(hD:D ∣ P)(h:G=U * (P / D)):((P:Int):Rat) * Cb false 1 G=Cb false D U:=by
 have e1:Cb false 1 G=mkRat 1 G:=by
  unfold Cb Ci
  rw[if_neg (show G≠0 by omega)];rfl
 have e2:Cb false D U=mkRat (D:Int) U:=by
  unfold Cb Ci
  rw[if_neg (show U≠0 by omega)];rfl
 rw[e1,e2,← Rat.mkRat_one,Rat.mkRat_mul_mkRat,Rat.mkRat_eq_iff (by omega) (by omega)]
 obtain⟨t,ht⟩:=hD
 have hD0:D≠0:=by
  rintro rfl
  rw[Nat.div_zero,yO]at h
  omega
 rw[ht,ze _ (by omega)]at h
 subst h;subst ht
 simp only[zz,Int.mul_one,ye]
 rw[Int.mul_assoc,Int.mul_comm (t:Int)]
def wO(C:Rat)(vs:List Int)(cs:List Rat)(C':Rat)(L':List (Int×Rat)):Prop:=∃L,Can L∧(∀a,Eg a L=Cq a vs cs) ∧
  ((L=[]∧C'=((ES C.num:Int):Rat)∧L'=[]) ∨
   (L≠[]∧∃L2,Can L2∧(∀a,Eg a L2=Cq a vs cs * Cb false (Dg L) 0)∧C'=C * Cb false (Dg L) 0 * Cb false 1 (GF L2 0)∧Can L'∧∀a,Eg a L'=Cq a vs cs * Cb false (Dg L) 0 * Cb false 1 (GF L2 0)))
theorem Uz         {C C1 C2 : Rat} {vs : List Int} {cs : List Rat} {T : List Co}  {L' : List (Int × Rat)} (h1 : vY  C vs cs C1 T) (hT : (BM    T).Nodup) (h2 : wO  C vs cs C2 L') : C1 = C2 ∧ Bu   T = L' := by
  obtain⟨T0,hA,hn,h1⟩:=h1
  obtain⟨L,hc,hev,h2⟩:=h2
  have hL:Bu T0=L:=Lw (Lv hn) hc fun a=>by
    rw[K6 a hn,hA.ev,hev]
    show 0+_ * 1=_
    rw[Rat.mul_one,Rat.zero_add]
  rw[hL]at h1
  rcases h1 with⟨e1,e2,rfl⟩ | ⟨e1,e2,h1⟩
  · rcases h2 with ⟨_, k2, rfl⟩ | ⟨k1, _⟩
    · exact⟨e2.trans k2.symm,rfl⟩
    · exact absurd e1 k1
  · rcases h2 with ⟨k1, _⟩ | ⟨_, L2, hc2, hev2, k2, hc', hev'⟩
    · exact absurd k1 e1
    · have hP := Nf        L
      have hL2:L2=UY (((Dg L:Nat):Int):Rat) L:=Lw hc2 (RF (fun h=>by
        have:=Rat.intCast_eq_zero_iff.1 h
        omega) hc) fun a=>by rw[hev2,RO,hev,Sa]
      have hs:=NB hP L 0 1 (by decide) (Nat.one_dvd _) (fun p hp=>Nd hp)
      rw[yo]at hs
      have hj:Cb false (Dg L) 0 * Cb false 1 (GF L2 0)=Cb false (Ku L 1) (GF L 0):=by
        rw[Sa]
        refine Xp (P3 L 0 (.inr ⟨e1,hc.2⟩)) ?_ hs.2 (by rw[hL2];exact hs.1)
        rw[hL2]
        exact P3 _ 0 (.inr ⟨fun h=>e1 (List.map_eq_nil_iff.1 h),(RF (fun h=>by
          have:=Rat.intCast_eq_zero_iff.1 h
          omega) hc).2⟩)
      refine⟨by rw[e2,k2,Rat.mul_assoc,hj],Lw (Lv hT) hc' fun a=>?_⟩
      rw[K6 a hT,h1.ev,hev',Rat.mul_assoc,hj,HG,hev]
      show 0+_=_
      rw[Rat.zero_add]
theorem vI{s:AE}{i x:Nat}(hi:i<s.next)(hg:s.heap.get i=some (R 76 1 false [Aw x])):Bo s (.slice (some (i,0)) 1 (some 1)) [x]:=by
 refine⟨_,_,rfl,.inl ⟨1,rfl,xZ _,fun h=>(by cases h)⟩,fun k u hu=>?_⟩
 refine⟨i,0,rfl,hi,?_⟩
 rw[E2,hg,Wo,xu]
 exact hu
theorem Sb{s:AE}{ac:Option (Nat×Nat)}{cs:List Rat}{cells:List AV}(h:Cg s ac cs cells){i:Nat}{q:Rat}(hi:cs[i]? = some q):∃i0 o m d,ac=some (i0,o)∧i0<s.next∧Bo s m (AJ q.num.natAbs)∧Bo s d (AJ q.den) ∧
  ∀S,Af s.next s S→AC Tryz.prog S 22 (.ptr (some (i0,o+i * 3+2)))=some d∧AC Tryz.prog S 22 (.ptr (some (i0,o+i * 3+0+1)))=some m:=by
 obtain⟨m,d,e,h2,h3⟩:=h.rat i q hi
 injection e with e
 have hget:∀j,j<3→cells[i * 3+j]? = [AV.bool (decide (q.num<0)),m,d][j]? := fun j hj=>by rw[← e,yy hj,yn]
 have g1:cells[i * 3+1]? = some m:=hget 1 (by decide)
 have g2:cells[i * 3+2]? = some d:=hget 2 (by decide)
 obtain⟨i0,o,rfl,hlt,c1⟩:=h.rd _ _ g1
 obtain⟨i0',o',e',_,c2⟩:=h.rd _ _ g2
 injection e' with e'
 injection e' with e1 e2
 subst e1;subst e2
 refine⟨i0,o,m,d,rfl,hlt,h2,h3,fun S hS=>⟨Bd CA ?_,Bd CA ?_⟩⟩
 ·rw[B6 (hS.2 i0 hlt),show o+i * 3+2=o+(i * 3+2) by omega];exact c2
 ·rw[B6 (hS.2 i0 hlt),show o+i * 3+0+1=o+(i * 3+1) by omega];exact c1
theorem L0{L:List (Int×Rat)}{i:Nat}(h:i<L.length):Dg (L.take (i+1))=Dg (L.take i) * L[i].2.den:=by
 rw[A0D h,Lz]
theorem Sz{L:List (Int×Rat)}{i:Nat}(h:i<L.length)(u:Nat):GF (L.take (i+1)) u=Nat.gcd (GF (L.take i) u) L[i].2.num.natAbs:=by
 rw[A0D h,GC]
theorem je{u a X:Nat}(hu:u<X)(ha:a<X):Nat.gcd u a<X:=by
 rcases yX u with rfl | h
 ·rw[Nat.gcd_zero_left];exact ha
 ·exact yM (Nat.gcd_le_left _ h) hu
section
variable{E:CU}{s:AE}
theorem TJ(hE:GoodN E){S0:AE}{p1:Nat}{x2:Bool}{A1 A2 A3:AV}{ac:Option (Nat×Nat)}{cc:Option Nat}{cells:List AV}{L:List (Int×Rat)}{B:Nat}(g1:S0.heap.get p1=some (BL x2 A1 A2 A3 (.slice ac (L.map (·.2)).length cc)))(h1:p1<S0.next)(hr:Cg S0 ac (L.map (·.2)) cells)(hLq:∀p∈L,QH p.2 B)(hL:L.length≤1000)(hB:1+(L.length+1) * B≤3000000)
  {y0 y2 y3 y6 y7 y8 y10:AV} {Q:Ay→Prop}
  (hq:∀S v y5 y9,Af S0.next S0 S→Bo S v (AJ (Dg L))→Dg L<LB ^ (1+L.length * B)→Q ⟨.exit 0,[y0,.ptr (some (p1,0)),y2,y3,v,y5,y6,y7,y8,y9,y10],[],S⟩):
  ∀ (r i:Nat) (S:AE) (v z9:AV),L.length - i=r→i≤L.length→Af S0.next S0 S→Bo S v (AJ (Dg (L.take i)))→Dg (L.take i)<LB ^ (1+i * B)→WC E none (.loop Li) Q [y0,.ptr (some (p1,0)),y2,y3,v,iv (i:Int),y6,y7,y8,z9,y10] [] S:=by
 have hlen2:(L.map (·.2)).length=L.length:=yE _
 intro r
 induction r with
 | zero =>
  intro i S v z9 hr0 hi ho hv hlt
  have e:i=L.length:=by omega
  subst e
  rw[zP]at hv hlt
  have l1:=AI (P:=Tryz.prog) (t:=28) (o:=0+4) Eb ((ho.2 p1 h1).trans g1) rfl
  have dd:decide ((L.length:Int)<((L.map (·.2)).length:Int))=false:=decide_eq_false (by omega)
  refine WC.loop' ?_
  simp only[Li,cG,l1,C0,AH Tryz.underlying28,Ry,dd,Qa,Qb,Qc,Qd,Qf,Qh,Qj,Qk,Qm,Qo,true_and,Qp,Qq,Qr,Qs,Qt,Qv,Ra,Rb,Rd,Re,Ry]
  exact hq S v _ _ ho hv hlt
 | succ r ih =>
  intro i S v z9 hr0 hi ho hv hlim
  have hlt:i<L.length:=by omega
  have l1:=AI (P:=Tryz.prog) (t:=28) (o:=0+4) Eb ((ho.2 p1 h1).trans g1) rfl
  have dd:decide ((i:Int)<((L.map (·.2)).length:Int))=true:=decide_eq_true (by omega)
  have e17:=Az Tryz.prog 3 (i:Int) 1 ⟨by omega,by omega⟩
  have e17':((i:Int)+1)=((i+1:Nat):Int):=by omega
  have hx:L[i]? = some L[i]:=xe hlt
  obtain⟨i0,o,m,d,rfl,hi0,hm,hd,hld⟩:=Sb hr (i:=i) (q:=L[i].2) (by rw[yY,hx];rfl)
  have ix:=Ae (cap:=cc) (i:=i0) (o:=o) (n:=3) (len:=(L.map (·.2)).length) Tryz.underlying28 A9 (show i<(L.map (·.2)).length by omega)
  have hqi:=hLq _ (zQ hlt)
  have hb1:i * B≤(L.length+1) * B:=yA _ (by omega)
  have hb2:1 * B≤(L.length+1) * B:=yA _ (by omega)
  have hb3:(i+1) * B=i * B+B:=by rw[yH,ye]
  have hl1:=Ai hlim
  have hl2:=Ai hqi.2
  refine WC.loop' ?_
  generalize hW:WC E none (Aa.loop Li) Q=WW
  simp only[Li,cG,lD,l1,C0,G5,AH Tryz.underlying28,Ry,dd,ix,(hld S ho).1,Qa,Qb,Qc,Qd,Qf,Qh,Qj,Qk,Qm,Qo,true_and,Qp,Qq,Qr,Qs,Qt,Qv,Qz,Rb,Rd,Re,Ry]
  refine WK hE hv (hd.old ho) (AK _) (AK _) (by omega) (by omega) fun S' w o' h'=>?_
  rw[AR,AR,← L0 hlt]at h'
  simp only[lE,e17,e17',Qb,Qc,Qd,Qf,Qh,Qi,Qj,Qk,Qm,Qo,true_and,Qp,Qq,Qr,Qs,Qt,Qv]
  rw[← hW]
  refine ih (i+1) S' w _ (by omega) (by omega) (ho.trans (o'.mono ho.1)) h' ?_
  rw[L0 hlt,hb3,← yR]
  exact Bq hlim hqi.2
theorem Wv(hE:GoodN E){S0:AE}{p1:Nat}{x2:Bool}{A1 A2 A3:AV}{ac:Option (Nat×Nat)}{cc:Option Nat}{cells:List AV}{L:List (Int×Rat)}{B:Nat}(g1:S0.heap.get p1=some (BL x2 A1 A2 A3 (.slice ac (L.map (·.2)).length cc)))(h1:p1<S0.next)(hr:Cg S0 ac (L.map (·.2)) cells)(hLq:∀p∈L,QH p.2 B)(hL:L.length≤1000)(hB:B≤3000000)
  {y0 y2 y3 y4 y5 y8 y9:AV} {Q:Ay→Prop}
  (hq:∀S v y7 y10,Af S0.next S0 S→Bo S v (AJ (GF L 0))→GF L 0<LB ^ B→Q ⟨.exit 2,[y0,.ptr (some (p1,0)),y2,y3,y4,y5,v,y7,y8,y9,y10],[],S⟩):
  ∀ (r i:Nat) (S:AE) (v z10:AV),L.length - i=r→i≤L.length→Af S0.next S0 S→Bo S v (AJ (GF (L.take i) 0))→GF (L.take i) 0<LB ^ B→WC E none (.loop Lj) Q [y0,.ptr (some (p1,0)),y2,y3,y4,y5,v,iv (i:Int),y8,y9,z10] [] S:=by
 have hlen2:(L.map (·.2)).length=L.length:=yE _
 intro r
 induction r with
 | zero =>
  intro i S v z9 hr0 hi ho hv hlt
  have e:i=L.length:=by omega
  subst e
  rw[zP]at hv hlt
  have l1:=AI (P:=Tryz.prog) (t:=28) (o:=0+4) Eb ((ho.2 p1 h1).trans g1) rfl
  have dd:decide ((L.length:Int)<((L.map (·.2)).length:Int))=false:=decide_eq_false (by omega)
  refine WC.loop' ?_
  simp only[Lj,Tk,l1,C0,AH Tryz.underlying28,Ry,dd,Qa,Qb,Qc,Qd,Qf,Qh,Qj,Qk,Qm,Qo,true_and,Qp,Qq,Qr,Qs,Qt,Qv,Ra,Rb,Rd,Re,Ry]
  exact hq S v _ _ ho hv hlt
 | succ r ih =>
  intro i S v z9 hr0 hi ho hv hlim
  have hlt:i<L.length:=by omega
  have l1:=AI (P:=Tryz.prog) (t:=28) (o:=0+4) Eb ((ho.2 p1 h1).trans g1) rfl
  have dd:decide ((i:Int)<((L.map (·.2)).length:Int))=true:=decide_eq_true (by omega)
  have e17:=Az Tryz.prog 3 (i:Int) 1 ⟨by omega,by omega⟩
  have e17':((i:Int)+1)=((i+1:Nat):Int):=by omega
  have hx:L[i]? = some L[i]:=xe hlt
  obtain⟨i0,o,m,d,rfl,hi0,hm,hd,hld⟩:=Sb hr (i:=i) (q:=L[i].2) (by rw[yY,hx];rfl)
  have ix:=Ae (cap:=cc) (i:=i0) (o:=o) (n:=3) (len:=(L.map (·.2)).length) Tryz.underlying28 A9 (show i<(L.map (·.2)).length by omega)
  have hqi:=hLq _ (zQ hlt)
  have hl1:=Ai hlim
  have hl2:=Ai hqi.1
  refine WC.loop' ?_
  generalize hW:WC E none (Aa.loop Lj) Q=WW
  simp only[Lj,Tk,cC,l1,C0,Dr,CR,AH Tryz.underlying28,Ry,dd,ix,(hld S ho).2,Qa,Qb,Qc,Qd,Qf,Qh,Qj,Qk,Qm,Qo,true_and,Qp,Qq,Qr,Qs,Qt,Qv,Qz,Rb,Rd,Re,Ry]
  refine WJ hE hv (hm.old ho) (AK _) (AK _) (by omega) (by omega) fun S' w o' h'=>?_
  rw[AR,AR,← Sz hlt]at h'
  simp only[cE,e17,e17',Qb,Qc,Qd,Qf,Qh,Qi,Qj,Qk,Qm,Qo,true_and,Qp,Qq,Qr,Qs,Qt,Qv]
  rw[← hW]
  refine ih (i+1) S' w _ (by omega) (by omega) (ho.trans (o'.mono ho.1)) h' ?_
  rw[Sz hlt]
  exact je hlim hqi.1
end
end
end Go.Proofs.YtjnkfbpadpmakaaGreatDoor.Am
set_option linter.unusedVariables false
set_option linter.unusedSimpArgs false
set_option maxRecDepth 16000
set_option maxHeartbeats 1000000
namespace Go.Proofs.YtjnkfbpadpmakaaGreatDoor.Am
open Go Go.Proofs
noncomputable section
theorem jo(B:Nat):0<LB ^ B:=yt BO
theorem jX(s:AE):Ax Tryz.prog s 3 76 (.int .i64 0)=some (Aw 0):=by kernel_rfl
theorem Vs(s:AE):Ax Tryz.prog s 3 76 (.int .i64 1)=some (Aw 1):=by kernel_rfl
theorem td{s:AE}{z:Int}{x:Nat}{m:AV}(h:Bo s m [x])(hx:x<2)(hz:Cb (decide (z<0)) x 0=(z:Rat)):QI s (.agg [.bool (decide (z<0)),m,.slice none 0 (some 0)]) ((z:Int):Rat) 1:=
 ⟨_,_,_,[x],[],rfl,h,(NR.nil 0 s).n32,fun y hy=>(by rw[A0H.1 hy];exact zr hx (by decide)),fun y hy=>(by cases hy),xZ _,xg _,by
  rw[show AG [x]=x from by show x+LB * 0=x;omega,show AG []=0 from rfl];exact hz⟩
section
variable{E:CU}{s:AE}
theorem YB(hE:GoodN E){S:AE}{p2:Nat}{z:Int}(hz:z=-1∨z=0∨z=1)(g2:S.heap.get p2=some ZL)(h2:p2<S.next){y0 y1 y4 y5 y6 y7 y8 y9 y10:AV}{K:List AV→AE→Prop}
  (hK:∀S' S'' w,Af S.next S S'→LC S.next S' w ((z:Int):Rat) []→AC Tryz.prog S'' 30 (.ptr (some (p2,0)))=some w→S''=setObj S' p2 (R 30 0 false w.cells)→S'.heap.get p2=some ZL→K [y0,y1,.ptr (some (p2,0)),iv z,y4,y5,y6,y7,y8,y9,y10] S''):
  Qb E Ve K [] [y0,y1,.ptr (some (p2,0)),iv z,y4,y5,y6,y7,y8,y9,y10] S:=by
 have key:∀ (x:Nat),x<2→(AL Tryz.prog .mul 3 (iv z) (iv z)=some (.int .i64 (x:Int)))→Ax Tryz.prog S 3 76 (.int .i64 (x:Int))=some (Aw x)→Cb (decide (z<0)) x 0=(z:Rat)→Qb E Ve K [] [y0,y1,.ptr (some (p2,0)),iv z,y4,y5,y6,y7,y8,y9,y10] S:=by
  intro x hx hm hc hr
  have er:Ad Tryz.prog 22 1 (zipIdx [0] [Aw x])=some (R 76 1 false [Aw x]):=Pu x
  obtain⟨n1,o1,g1⟩:=CC S (R 76 1 false [Aw x])
  simp only[Ve,Ry,hm,hc,er,Xe,Dm,QQ,Qa,Qb,Qc,Qd,Qe,Qf,Qg,Qh,Qi,Qj,Qk,Ql,Qm,Qo,true_and,and_true,Qp,Qq,Qr,Qs,Qt,Qu,Qv,Qw,Qx,Qy,Qz,Ra,Rb,Rc,Rd,Re,Rf,Rg,Rh,Ri,Rj,Rk,Rm,Rn,Ro,Rp,Rq,Rs,Rt,Ya,Yb,Yc,Ru,Rw,Zb,Yd,Ye,Ry,Rz,Wa,Wb,Wc,Wd,We]
  have g2':=(o1.2 p2 h2).trans g2
  generalize newObj S (R 76 1 false [Aw x])=S1 at *
  refine XC hE (td (vI (i:=S.next) (by omega) g1) hx hr) (by decide) (by decide) fun S2 w o2 h=>?_
  have g3:=(o2.2 p2 (by omega)).trans g2'
  obtain⟨x9,a9,m9,c9,b9,k9,d9,av9,cv9,ac9,cc9,rfl⟩:=h.shape
  obtain⟨st9,ld9⟩:=CF (cs0:=[.bool false,.slice none 0 (some 0),.slice none 0 (some 0),.slice none 0 (some 0),.slice none 0 (some 0)]) rfl (x:=x9) (a:=a9) (n:=m9) (c:=c9) (b:=b9) (m:=k9) (d:=d9) (av:=av9) (nv:=0) (cv:=cv9) (ac:=ac9) (nc:=0) (cc:=cc9) g3
  simp only[List.map_nil,zY,st9,Xy,Za,Qa,Qb,Qc,Qd,Qe,Qf,Qg,Qh,Qi,Qj,Qk,Ql,Qm,Qo,true_and,and_true,Qp,Qq,Qr,Qs,Qt,Qu,Qv,Qw,Qx,Qy,Qz,Ra,Rb,Rc,Rd,Re,Rf,Rg,Rh,Ri,Rj,Rk,Rm,Rn,Ro,Rp,Rq,Rs,Rt,Ya,Yb,Yc,Ru,Rw,Zb,Yd,Ye,Ry,Rz,Wa,Wb,Wc,Wd,We]
  exact hK S2 _ _ (o1.trans (o2.mono o1.1)) (h.mono (by omega)) ld9 rfl g3
 rcases hz with rfl | rfl | rfl
 ·exact key 1 (by decide) (Of Tryz.prog 3 _ _ ⟨by decide,by decide⟩) (Vs _) (by decide)
 ·exact key 0 (by decide) (Of Tryz.prog 3 _ _ ⟨by decide,by decide⟩) (jX _) (by decide)
 ·exact key 1 (by decide) (Of Tryz.prog 3 _ _ ⟨by decide,by decide⟩) (Vs _) (by decide)
theorem XD(hE:GoodN E){vl:AV}{C:Rat}{vs:List Int}{cs:List Rat}(hl:LI s vl C vs cs 3)(hN:min vs.length cs.length≤8)(hvl:vs.length≤1000000){K:AV→AE→Prop}
    (hK:∀s' w C' L',Af s.next s s'→LC s.next s' w C' L'→wO C vs cs C' L'→QH C' 1400000→(∀p∈L',QH p.2 1400000)→L'.length≤8→K w s'):WF E 17 [vl] K s:=by
  obtain⟨x,a,n,c,b,m,d,av,nv,cv,ac,nc,cc,rfl⟩:=hl.shape
  refine hE.go rV (by decide) rfl ?_
  obtain⟨n1,o1,g1,g2⟩:=EO s (BL x (.slice a n c) (.slice b m d) (.slice av nv cv) (.slice ac nc cc)) ZL
  simp only[wR,kp,kq,Xa,Xh,El,Xc,Aq,Qa,Qb,Qc,Qd,Qe,Qf,Qg,Qh,Qi,Qj,Qk,Ql,Qm,Qo,true_and,and_true,Qp,Qq,Qr,Qs,Qt,Qu,Qv,Qw,Qx,Qy,Qz,Ra,Rb,Rc,Rd,Re,Rf,Rg,Rh,Ri,Rj,Rk,Rm,Rn,Ro,Rp,Rq,Rs,Rt,Ya,Yb,Yc,Ru,Rw,Zb,Yd,Ye,Ry,Rz,Wa,Wb,Wc,Wd,We]
  generalize newObj (newObj s (BL x (.slice a n c) (.slice b m d) (.slice av nv cv) (.slice ac nc cc))) ZL=s1 at *
  have l1:=AT (P:=Tryz.prog) (t:=30) GJ Fk g1 rfl
  simp only[l1,Qa,Qb,Qc,Qd,Qe,Qf,Qg,Qh,Qi,Qj,Qk,Ql,Qm,Qo,true_and,and_true,Qp,Qq,Qr,Qs,Qt,Qu,Qv,Qw,Qx,Qy,Qz,Ra,Rb,Rc,Rd,Re,Rf,Rg,Rh,Ri,Rj,Rk,Rm,Rn,Ro,Rp,Rq,Rs,Rt,Ya,Yb,Yc,Ru,Rw,Zb,Yd,Ye,Ry,Rz,Wa,Wb,Wc,Wd,We]
  refine Ju hE (hl.old o1) (by decide) hN (by decide) (B:=36) (by decide) (by decide) hvl fun s2 w2 L o2 hL hcan hev hLl hCq hLq=>?_
  have h2:=o2.1
  have f1:=(o2.2 s.next (by omega)).trans g1
  have f2:=(o2.2 (s.next+1) (by omega)).trans g2
  obtain⟨x2,a2,n2,c2,b2,m2,d2,av2,cv2,ac2,cc2,cells2,rfl,hC2,hP2,hb2,hb2'⟩:=hL
  obtain⟨st,_⟩:=CF (cs0:=[.bool x,.slice a n c,.slice b m d,.slice av nv cv,.slice ac nc cc]) rfl (x:=x2) (a:=a2) (n:=n2) (c:=c2) (b:=b2) (m:=m2) (d:=d2) (av:=av2) (nv:=(L.map (·.1)).length) (cv:=cv2) (ac:=ac2) (nc:=(L.map (·.2)).length) (cc:=cc2) f1
  have hC3:=hC2.box (o:=BL x2 (.slice a2 n2 c2) (.slice b2 m2 d2) (.slice av2 (L.map (·.1)).length cv2) (.slice ac2 (L.map (·.2)).length cc2)) f1 rfl
  have hP3:=hP2.set (o:=BL x2 (.slice a2 n2 c2) (.slice b2 m2 d2) (.slice av2 (L.map (·.1)).length cv2) (.slice ac2 (L.map (·.2)).length cc2)) f1 rfl (fun i q h=>by have:=hb2 i q h;omega) (fun i q h=>by have:=hb2' i q h;omega)
  simp only[ku,st,Xy,Za,Qa,Qb,Qc,Qd,Qe,Qf,Qg,Qh,Qi,Qj,Qk,Ql,Qm,Qo,true_and,and_true,Qp,Qq,Qr,Qs,Qt,Qu,Qv,Qw,Qx,Qy,Qz,Ra,Rb,Rc,Rd,Re,Rf,Rg,Rh,Ri,Rj,Rk,Rm,Rn,Ro,Rp,Rq,Rs,Rt,Ya,Yb,Yc,Ru,Rw,Zb,Yd,Ye,Ry,Rz,Wa,Wb,Wc,Wd,We]
  have o13:Af s.next s (setObj s2 s.next (BL x2 (.slice a2 n2 c2) (.slice b2 m2 d2) (.slice av2 (L.map (·.1)).length cv2) (.slice ac2 (L.map (·.2)).length cc2))):=(o1.trans (o2.mono o1.1)).set (xZ _) _
  generalize hs3:setObj s2 s.next (BL x2 (.slice a2 n2 c2) (.slice b2 m2 d2) (.slice av2 (L.map (·.1)).length cv2) (.slice ac2 (L.map (·.2)).length cc2))=s3 at *
  have n3:s3.next=s2.next:=by rw[← hs3];rfl
  have i1:s3.heap.get s.next=some (BL x2 (.slice a2 n2 c2) (.slice b2 m2 d2) (.slice av2 (L.map (·.1)).length cv2) (.slice ac2 (L.map (·.2)).length cc2)):=by rw[← hs3,Ww]
  have i2:s3.heap.get (s.next+1)=some ZL:=by rw[← hs3,Wx _ (by omega)];exact f2
  have lv:=AI (P:=Tryz.prog) (t:=27) (o:=0+3) Fc i1 rfl
  by_cases hnil:L=[]
  · subst hnil
    have lc:AC Tryz.prog s3 26 (.ptr (some (s.next,0+0)))=some (.agg [.bool x2,.slice a2 n2 c2,.slice b2 m2 d2]):=Av (o:=0) (n:=3) Bt A9 i1 (by simp)
    have dd:decide (((([]:List (Int×Rat)).map (·.1)).length:Int)=0)=true:=rfl
    simp only[lv,Cz,AH Tryz.underlying27,Wc,dd,kw,lc,IP,Qa,Qb,Qc,Qd,Qe,Qf,Qg,Qh,Qi,Qj,Qk,Ql,Qm,Qo,true_and,and_true,Qp,Qq,Qr,Qs,Qt,Qu,Qv,Qw,Qx,Qy,Qz,Ra,Rb,Rc,Rd,Re,Rf,Rg,Rh,Ri,Rj,Rk,Rm,Rn,Ro,Rp,Rq,Rs,Rt,Ya,Yb,Yc,Ru,Rw,Zb,Yd,Ye,Ry,Rz,Wa,Wb,Wc,Wd,We]
    refine RT hE hC3 hCq (by decide) fun s4 o4=>?_
    simp only[Qa,Qb,Qc,Qd,Qe,Qf,Qg,Qh,Qi,Qj,Qk,Ql,Qm,Qo,true_and,and_true,Qp,Qq,Qr,Qs,Qt,Qu,Qv,Qw,Qx,Qy,Qz,Ra,Rb,Rc,Rd,Re,Rf,Rg,Rh,Ri,Rj,Rk,Rm,Rn,Ro,Rp,Rq,Rs,Rt,Ya,Yb,Yc,Ru,Rw,Zb,Yd,Ye,Ry,Rz,Wa,Wb,Wc,Wd,We]
    refine YB hE (p2:=s.next+1) (vL C.num) ((o4.2 (s.next+1) (by omega)).trans i2) (by have:=o4.1;omega) fun S' S'' w oS h ld e gp=>?_
    simp only[ld,AQ,Qa,Qb,Qc,Qd,Qe,Qf,Qg,Qh,Qi,Qj,Qk,Ql,Qm,Qo,true_and,and_true,Qp,Qq,Qr,Qs,Qt,Qu,Qv,Qw,Qx,Qy,Qz,Ra,Rb,Rc,Rd,Re,Rf,Rg,Rh,Ri,Rj,Rk,Rm,Rn,Ro,Rp,Rq,Rs,Rt,Ya,Yb,Yc,Ru,Rw,Zb,Yd,Ye,Ry,Rz,Wa,Wb,Wc,Wd,We]
    subst e
    have o14:=o13.trans (o4.mono o13.1)
    have o1S:=o14.trans (oS.mono o14.1)
    obtain⟨x9,a9,m9,c9,b9,k9,d9,av9,cv9,ac9,cc9,rfl⟩:=h.shape
    refine hK _ _ _ [] (o1S.set (by omega) _) ((h.set (by have:=o4.1;omega) gp rfl).mono (by have:=o14.1;omega)) ⟨[],hcan,hev,.inl ⟨rfl,rfl,rfl⟩⟩ ?_ (fun p hp=>(by cases hp)) (xg _)
    rcases vL C.num with h3 | h3 | h3<;>rw[h3]<;>exact QH.le (k:=1) ⟨by decide,by decide⟩ (by decide)
  · have hLpos : 0 < L.length := List.length_pos_iff.2 hnil
    have dd:decide (((L.map (·.1)).length:Int)=0)=false:=decide_eq_false (by rw[yE];omega)
    have er:Ad Tryz.prog 22 1 (zipIdx [0] [.int .u32 1])=some (R 76 1 false [Aw 1]):=Pu 1
    obtain⟨n4,o4,g4⟩:=CC s3 (R 76 1 false [Aw 1])
    simp only[lv,Cz,AH Tryz.underlying27,Wc,dd,kz,lA,er,Xe,Qa,Qb,Qc,Qd,Qe,Qf,Qg,Qh,Qi,Qj,Qk,Ql,Qm,Qo,true_and,and_true,Qp,Qq,Qr,Qs,Qt,Qu,Qv,Qw,Qx,Qy,Qz,Ra,Rb,Rc,Rd,Re,Rf,Rg,Rh,Ri,Rj,Rk,Rm,Rn,Ro,Rp,Rq,Rs,Rt,Ya,Yb,Yc,Ru,Rw,Zb,Yd,Ye,Ry,Rz,Wa,Wb,Wc,Wd,We]
    generalize newObj s3 (R 76 1 false [Aw 1])=s4 at *
    have j1:=(o4.2 s.next (by omega)).trans i1
    have j2:=(o4.2 (s.next+1) (by omega)).trans i2
    have hP4:=hP3.old o4
    have hC4:=hC3.old o4
    have o14:=o13.trans (o4.mono o13.1)
    have hL8:L.length * 36≤8 * 36:=yA _ hLl
    have hL9:(L.length+1) * 36≤9 * 36:=yA _ (by omega)
    refine TJ hE (L:=L) (B:=36) j1 (by omega) hP4.rs hLq (by omega) (by omega) (fun S v y5 y9 oS hv hlim=>?_) L.length 0 s4 _ _ rfl (xg _) (Af.refl _ _) (by show Bo _ _ (AJ 1);rw[Nt];exact Pd (by omega) g4) (show 1<LB ^ (1+0 * 36) by decide)
    have k1:=(oS.2 s.next (by omega)).trans j1
    have k2:=(oS.2 (s.next+1) (by omega)).trans j2
    have lS:=AT (P:=Tryz.prog) (t:=30) GJ Fk k1 rfl
    have oSs:=o14.trans (oS.mono o14.1)
    have hby:QI S (.agg [.bool false,v,.slice none 0 (some 0)]) (Cb false (Dg L) 0) 289:=
      ⟨false,_,_,_,[],rfl,hv,(NR.nil 0 S).n32,AK _,fun y hy=>(by cases hy),xh (Ai hlim) (by omega),xg _,by rw[AR];rfl⟩
    obtain⟨ab,nb,cb,rfl⟩:=hv.shape
    have hLI:LI S (.agg [.bool x2,.slice a2 n2 c2,.slice b2 m2 d2,.slice av2 (L.map (·.1)).length cv2,.slice ac2 (L.map (·.2)).length cc2]) C (L.map (·.1)) (L.map (·.2)) 36:=
      LC.li (bb:=0) (L:=L) ⟨_,_,_,_,_,_,_,_,_,_,_,_,rfl,hC4.old oS,hP4.old oS,fun _ _ _=>xg _,fun _ _ _=>xg _⟩ (hCq.le (by decide)) hLq
    simp only[if_true,bs,lS,Gy,QQ,Qa,Qb,Qc,Qd,Qe,Qf,Qg,Qh,Qi,Qj,Qk,Ql,Qm,Qo,true_and,and_true,Qp,Qq,Qr,Qs,Qt,Qu,Qv,Qw,Qx,Qy,Qz,Ra,Rb,Rc,Rd,Re,Rf,Rg,Rh,Ri,Rj,Rk,Rm,Rn,Ro,Rp,Rq,Rs,Rt,Ya,Yb,Yc,Ru,Rw,Zb,Yd,Ye,Ry,Rz,Wa,Wb,Wc,Wd,We]
    refine Nh hE hLI hby (by decide) (by decide) (N:=8) (B1:=333) (B:=5607) (by rw[yE,yE];omega) (by decide) (by decide) (by decide) (by decide) (by rw[yE];omega) fun s5 w5 L2 o5 hL2 hcan2 hev2 hLl2 hCq2 hLq2=>?_
    have hS1:=oS.1
    have q1:=(o5.2 s.next (by omega)).trans k1
    have q2:=(o5.2 (s.next+1) (by omega)).trans k2
    obtain⟨x5,a5,n5,c5,b5,m5,d5,av5,cv5,ac5,cc5,cells5,rfl,hC5,hP5,hb5,hb5'⟩:=hL2
    obtain⟨st5,_⟩:=CF (cs0:=[.bool x2,.slice a2 n2 c2,.slice b2 m2 d2,.slice av2 (L.map (·.1)).length cv2,.slice ac2 (L.map (·.2)).length cc2]) rfl (x:=x5) (a:=a5) (n:=n5) (c:=c5) (b:=b5) (m:=m5) (d:=d5) (av:=av5) (nv:=(L2.map (·.1)).length) (cv:=cv5) (ac:=ac5) (nc:=(L2.map (·.2)).length) (cc:=cc5) q1
    have hC6:=hC5.box (o:=BL x5 (.slice a5 n5 c5) (.slice b5 m5 d5) (.slice av5 (L2.map (·.1)).length cv5) (.slice ac5 (L2.map (·.2)).length cc5)) q1 rfl
    have hP6:=hP5.set (o:=BL x5 (.slice a5 n5 c5) (.slice b5 m5 d5) (.slice av5 (L2.map (·.1)).length cv5) (.slice ac5 (L2.map (·.2)).length cc5)) q1 rfl (fun i q h=>by have:=hb5 i q h;omega) (fun i q h=>by have:=hb5' i q h;omega)
    have o16:Af s.next s (setObj s5 s.next (BL x5 (.slice a5 n5 c5) (.slice b5 m5 d5) (.slice av5 (L2.map (·.1)).length cv5) (.slice ac5 (L2.map (·.2)).length cc5))):=(oSs.trans (o5.mono oSs.1)).set (xZ _) _
    simp only[st5,Xy,Za,bw,bz,Qa,Qb,Qc,Qd,Qe,Qf,Qg,Qh,Qi,Qj,Qk,Ql,Qm,Qo,true_and,and_true,Qp,Qq,Qr,Qs,Qt,Qu,Qv,Qw,Qx,Qy,Qz,Ra,Rb,Rc,Rd,Re,Rf,Rg,Rh,Ri,Rj,Rk,Rm,Rn,Ro,Rp,Rq,Rs,Rt,Ya,Yb,Yc,Ru,Rw,Zb,Yd,Ye,Ry,Rz,Wa,Wb,Wc,Wd,We]
    have h5:=o5.1
    generalize hs6:setObj s5 s.next (BL x5 (.slice a5 n5 c5) (.slice b5 m5 d5) (.slice av5 (L2.map (·.1)).length cv5) (.slice ac5 (L2.map (·.2)).length cc5))=s6 at *
    have n6:s6.next=s5.next:=by rw[← hs6];rfl
    have r1:s6.heap.get s.next=some (BL x5 (.slice a5 n5 c5) (.slice b5 m5 d5) (.slice av5 (L2.map (·.1)).length cv5) (.slice ac5 (L2.map (·.2)).length cc5)):=by rw[← hs6,Ww]
    have r2:s6.heap.get (s.next+1)=some ZL:=by rw[← hs6,Wx _ (by omega)];exact q2
    refine Wv hE (L:=L2) (B:=5607) r1 (by omega) hP6.rs hLq2 (by omega) (by decide) (fun S7 v7 y7 y10 o7 hv7 hlim7=>?_) L2.length 0 s6 _ _ rfl (xg _) (Af.refl _ _) (by show Bo _ _ (AJ 0);rw[A8];exact(NR.nil 0 s6).n32) (jo 5607)
    have t1:=(o7.2 s.next (by omega)).trans r1
    have t2:=(o7.2 (s.next+1) (by omega)).trans r2
    have lS7:=AT (P:=Tryz.prog) (t:=30) GJ Fk t1 rfl
    have o17:=o16.trans (o7.mono o16.1)
    obtain⟨n8,o8,g8⟩:=CC S7 (R 76 1 false [Aw 1])
    simp only[if_true,cF,lS7,er,Xe,Gy,Qa,Qb,Qc,Qd,Qe,Qf,Qg,Qh,Qi,Qj,Qk,Ql,Qm,Qo,true_and,and_true,Qp,Qq,Qr,Qs,Qt,Qu,Qv,Qw,Qx,Qy,Qz,Ra,Rb,Rc,Rd,Re,Rf,Rg,Rh,Ri,Rj,Rk,Rm,Rn,Ro,Rp,Rq,Rs,Rt,Ya,Yb,Yc,Ru,Rw,Zb,Yd,Ye,Ry,Rz,Wa,Wb,Wc,Wd,We]
    have hv8:=hv7.old o8
    generalize newObj S7 (R 76 1 false [Aw 1])=s8 at *
    have hby2:QI s8 (.agg [.bool false,.slice (some (S7.next,0)) 1 (some 1),v7]) (Cb false 1 (GF L2 0)) 5607:=
      ⟨false,_,_,[1],_,rfl,Pd (by omega) g8,hv8,fun y hy=>(by rw[A0H.1 hy];decide),AK _,by decide,Ai hlim7,by rw[AR];rfl⟩
    obtain⟨ag,ng,cg,rfl⟩:=hv7.shape
    have o68:Af s6.next s6 s8:=o7.trans (o8.mono o7.1)
    have hLI2:LI s8 (.agg [.bool x5,.slice a5 n5 c5,.slice b5 m5 d5,.slice av5 (L2.map (·.1)).length cv5,.slice ac5 (L2.map (·.2)).length cc5]) (C * Cb false (Dg L) 0) (L2.map (·.1)) (L2.map (·.2)) 5607:=
      LC.li (bb:=0) (L:=L2) ⟨_,_,_,_,_,_,_,_,_,_,_,_,rfl,hC6.old o68,hP6.old o68,fun _ _ _=>xg _,fun _ _ _=>xg _⟩ hCq2 hLq2
    simp only[Kx,Qa,Qb,Qc,Qd,Qe,Qf,Qg,Qh,Qi,Qj,Qk,Ql,Qm,Qo,true_and,and_true,Qp,Qq,Qr,Qs,Qt,Qu,Qv,Qw,Qx,Qy,Qz,Ra,Rb,Rc,Rd,Re,Rf,Rg,Rh,Ri,Rj,Rk,Rm,Rn,Ro,Rp,Rq,Rs,Rt,Ya,Yb,Yc,Ru,Rw,Zb,Yd,Ye,Ry,Rz,Wa,Wb,Wc,Wd,We]
    refine Nh hE hLI2 hby2 (by decide) (by decide) (N:=8) (B1:=50472) (B:=504720) (by rw[yE,yE];omega) (by decide) (by decide) (by decide) (by decide) (by rw[yE];omega) fun s9 w9 L' o9 hL' hcan' hev' hLl' hCq' hLq'=>?_
    have h7:=o7.1
    have u2:=(o9.2 (s.next+1) (by omega)).trans ((o8.2 (s.next+1) (by omega)).trans t2)
    have o18:=o17.trans (o8.mono o17.1)
    have o19:=o18.trans (o9.mono o18.1)
    obtain⟨x9,a9,m9,c9,b9,k9,d9,av9,cv9,ac9,cc9,rfl⟩:=hL'.shape
    obtain⟨st9,ld9⟩:=CF (cs0:=[.bool false,.slice none 0 (some 0),.slice none 0 (some 0),.slice none 0 (some 0),.slice none 0 (some 0)]) rfl (x:=x9) (a:=a9) (n:=m9) (c:=c9) (b:=b9) (m:=k9) (d:=d9) (av:=av9) (nv:=(L'.map (·.1)).length) (cv:=cv9) (ac:=ac9) (nc:=(L'.map (·.2)).length) (cc:=cc9) u2
    simp only[st9,ld9,AQ,Xy,Za,Qa,Qb,Qc,Qd,Qe,Qf,Qg,Qh,Qi,Qj,Qk,Ql,Qm,Qo,true_and,and_true,Qp,Qq,Qr,Qs,Qt,Qu,Qv,Qw,Qx,Qy,Qz,Ra,Rb,Rc,Rd,Re,Rf,Rg,Rh,Ri,Rj,Rk,Rm,Rn,Ro,Rp,Rq,Rs,Rt,Ya,Yb,Yc,Ru,Rw,Zb,Yd,Ye,Ry,Rz,Wa,Wb,Wc,Wd,We]
    have hev2':∀a,Eg a L2=Cq a vs cs * Cb false (Dg L) 0:=fun a=>by rw[hev2,HG,hev]
    refine hK _ _ _ L' (o19.set (by omega) _) ((hL'.set (by omega) u2 rfl).mono (by have:=o18.1;omega)) ⟨L,hcan,hev,.inr ⟨hnil,L2,hcan2,hev2',rfl,hcan',fun a=>by rw[hev',HG,hev2']⟩⟩ (hCq'.le (by decide)) (fun p hp=>(hLq' p hp).le (by decide)) hLl'
end
end
end Go.Proofs.YtjnkfbpadpmakaaGreatDoor.Am
set_option linter.unusedVariables false
set_option linter.unusedSimpArgs false
set_option maxRecDepth 16000
namespace Go.Proofs.YtjnkfbpadpmakaaGreatDoor.Am
open Go Go.Proofs
noncomputable section
theorem LR.lc{b:Nat}{s:AE}{v:AV}{C:Rat}{L:List (Int×Rat)}(h:LR b s v C L):LC 0 s v C L:=by
 obtain⟨x,a,n,ca,d,m,cd,vv,cv,D,O1,O2,rfl,hq,rfl,hD,_,b1,b2,_⟩:=h
 obtain⟨av,capv,rfl,hcv,hzv⟩:=b1.capZ
 obtain⟨ac,capc,rfl,hcc,hzc⟩:=b2.capZ
 have hl3:∀t∈D,t.2.2.cells.length=3:=fun t ht=>by
  obtain⟨_,_,_,_,_,_,_,e⟩:=(hD t ht).1.shape
  rw[e];rfl
 obtain⟨p1,p2⟩:=F5 D hl3
 have e1:((D.map fun t=>(t.1,t.2.1)).map (·.1)).map iv=G9 D:=by simp[G9,yr,Function.comp_def]
 refine⟨x,a,n,ca,d,m,cd,av,capv,ac,capc,DP D,by simp,hq.qc,⟨by rw[e1];exact hcv,fun z hz=>?_,by simpa using hzv,⟨by simp[p1],hcc,fun i q hi=>?_⟩,by simpa using hzc⟩,fun _ _ _=>xg _,fun _ _ _=>xg _⟩
 ·rw[yr]at hz
  obtain⟨t,ht,rfl⟩:=List.mem_map.1 hz
  exact(hD t ht).2.1
 ·rw[yr,yY]at hi
  cases hDi:D[i]? with
  | none=>rw[hDi]at hi;cases hi
  | some t =>
   rw[hDi]at hi
   injection hi with hi
   have htm:=yG hDi
   rw[p2 i t hDi]
   obtain⟨_,_,_,_,_,_,_,e⟩:=(hD t htm).1.shape
   have:=(hD t htm).1.qc
   rw[← hi,show AV.agg t.2.2.cells=t.2.2 from by rw[e];rfl]
   exact this
section
variable{E:CU}{s:AE}
theorem YA(hE:KM E){vl:AV}{C:Rat}{vs:List Int}{cs:List Rat}(hl:LI s vl C vs cs 3)(hM:min cs.length vs.length≤8){K:AV→AE→Prop}
  (hK:∀s' w C' T,Af s.next s s'→LR s.next s' w C' (Bu T)→vY C vs cs C' T→QH C' 1400000→(∀p∈Bu T,QH p.2 1400000)→(BM T).Nodup→T.length≤8→K w s'):WF E 16 [vl] K s:=by
 generalize hM':min cs.length vs.length=M at hM
 have h1:(M+1) * (3+2)≤9 * (3+2):=yA _ (by omega)
 have h2:M * (1+(M+1) * (3+2))≤8 * 46:=yh hM (by omega)
 have h3:(M+1) * (1+(M+1) * (3+2)+(1+M * (1+(M+1) * (3+2))+(1+(M+1) * (3+2)))+1)≤9 * 462:=yh (by omega) (by omega)
 have h4:(M+2) * (1+(M+1) * (3+2)+(1+M * (1+(M+1) * (3+2))+(1+(M+1) * (3+2)))+1)≤10 * 462:=yh (by omega) (by omega)
 exact hJ hE hl (by decide) hM' (by omega) rfl rfl (by omega) fun s' w C' T o r hw hc hT hn hl=>hK s' w C' T o r hw (hc.le (by omega)) (Vj (by decide) fun t ht=>(hT t ht).le (by omega)) hn (by omega)
theorem YC(hE:KM E){v:AV}(hA:LA s v){K:AV→AE→Prop}(hK:∀s',Af s.next s s'→K (.bool true) s'):WF E 4 [v] K s:=by
 obtain⟨xa,aa,na,ka,ba,ma,da,va,nva,kva,wa,nwa,kwa,rfl⟩:=hA.shape
 refine hE.go vA (by decide) rfl ?_
 obtain⟨n1,o1,g1⟩:=CC s (BL xa (.slice aa na ka) (.slice ba ma da) (.slice va nva kva) (.slice wa nwa kwa))
 simp only[c4,ul,um,Xa,Xh,Xc,Qa,Qb,Qc,Qd,Qf,Qh,Qi,Qj,Qk,Ql,Qm,Qo,true_and,Qp,Qq,Qr,Qs,Qt,Qv,Rb,Rh,Rj,Rk,Rm,Rn,Yc]
 generalize newObj s (BL xa (.slice aa na ka) (.slice ba ma da) (.slice va nva kva) (.slice wa nwa kwa))=s1 at *
 have l1:=AT (P:=Tryz.prog) (t:=30) GJ Fk g1 rfl
 simp only[l1,Qm]
 refine tF hE.toGoodN o1 hA fun s2 w C vs cs o2 hw nv nc=>?_
 have h2:=o2.1
 have hw2:=hw s2 (xZ _) fun _ _ _=>rfl
 obtain⟨x,a,n,c,b,m,d,av,lv,cv,ac,lc,cc,rfl⟩:=hw2.shape
 obtain⟨st,_⟩:=CF (cs0:=[.bool xa,.slice aa na ka,.slice ba ma da,.slice va nva kva,.slice wa nwa kwa]) rfl (x:=x) (a:=a) (n:=n) (c:=c) (b:=b) (m:=m) (d:=d) (av:=av) (nv:=lv) (cv:=cv) (ac:=ac) (nc:=lc) (cc:=cc) ((o2.2 s.next (by omega)).trans g1)
 have hL:=hw (setObj s2 s.next (BL x (.slice a n c) (.slice b m d) (.slice av lv cv) (.slice ac lc cc))) (xZ _) fun j hj h=>Wx _ (by omega)
 have o03:Af s.next s (setObj s2 s.next (BL x (.slice a n c) (.slice b m d) (.slice av lv cv) (.slice ac lc cc))):=(o1.trans (o2.mono o1.1)).set (xZ _) _
 have g3:(setObj s2 s.next (BL x (.slice a n c) (.slice b m d) (.slice av lv cv) (.slice ac lc cc))).heap.get s.next=some (BL x (.slice a n c) (.slice b m d) (.slice av lv cv) (.slice ac lc cc)):=Ww ..
 have n3:s.next<(setObj s2 s.next (BL x (.slice a n c) (.slice b m d) (.slice av lv cv) (.slice ac lc cc))).next:=by show s.next<s2.next;omega
 simp only[un,st,Xy,Za,Qb,Qc,Qd,Qf,Qg,Qh,Qi,Qj,Qk,Qm,Qo,true_and,Qr,Qs,Qt,Qv,Qw,Ru,Rw]
 generalize setObj s2 s.next (BL x (.slice a n c) (.slice b m d) (.slice av lv cv) (.slice ac lc cc))=s3 at *
 have l3:=AT (P:=Tryz.prog) (t:=30) GJ Fk g3 rfl
 simp only[l3,Qm]
 refine YA hE hL (by omega) fun s4 w4 C4 T o4 r4 hv4 hc4 ht4 hn4 hl4=>?_
 have l4:=AT (P:=Tryz.prog) (t:=30) GJ Fk ((o4.2 s.next n3).trans g3) rfl
 refine⟨⟨As (by simp only[Qj,Qk,Qr,Qs];exact l4) (RM ..),trivial⟩,?_⟩
 simp only[Qr,Qs]
 refine XD hE.toGoodN (hL.old o4) (by omega) (by omega) fun s5 w5 C5 L' o5 r5 hv5 hc5 hL5 hl5=>?_
 obtain⟨e1,e2⟩:=Uz hv4 hn4 hv5
 subst e1;subst e2
 have hX4:=(r4.lc.lx hc4 ht4 (by decide)).old o5
 have hX5:=r5.lx hc5 hL5 (by decide)
 have o45:=o4.trans (o5.mono o4.1)
 have o05:=o03.trans (o45.mono o03.1)
 simp only[Qd,Qo,true_and,Qr,Qs]
 refine YO hE.toGoodN hX4 hX5 (by rw[yE];omega) (by rw[yE];omega) fun s6 o6=>?_
 simp only[Qc,Qd,Qo,true_and,Qr,Qt,Qx,Rs]
 refine WF.nat (hE.wk s6) ?_
 simp only[Qd,Qm,Qo,true_and,Qp,Qq,Qr,Qs]
 exact hK s6 (o05.trans (o6.mono o05.1))
end
theorem jv{W:World}{base:Nat}{v:Value}(h:Value.okWide Tryz.prog W .any base 30 v):∃cs,v=.agg cs∧∃ts:List TypeId,∀ (i:Nat)(c:Value),cs[i]? = some c→∃u,Cell.okWide Tryz.prog W .any base u c:=by
 unfold Value.okWide at h
 rw[Tryz.underlying30]at h
 obtain⟨cs,rfl,_,ts,_,_,h5⟩:=h
 exact⟨cs,rfl,ts,fun i c hi=>by obtain⟨u,_,hu⟩:=h5 i c hi;exact⟨u,hu⟩⟩
section
variable{H:Type}{enc:TypeId×Value→H}{W:World}{base:Nat}
theorem wholes4_true{v0:Value}(h0:Value.okWide Tryz.prog W .any base 30 v0)
  {d0:DataW H} {p0:List MemPlace} (t0:DataW.Trod enc Tryz.prog W 0 (fun _=>true) true 30 v0 d0 p0):
  Calls Tryz.prog 4 #[v0] W fun e W'=>e=.returned (.bool true)∧OW W W':=by
 obtain⟨n0,t0⟩:=t0
 obtain⟨cs,rfl,ts,hcs⟩:=jv h0
 obtain⟨ρ1,s1,us1,x1,g1,g2,g3,g4,g5⟩:=XF t0 (fun a ha=>by
  obtain⟨i,hi⟩:=List.getElem?_of_mem ha
  have hi':cs[i]? = some (.slice (some a) 0 0):=by
   have:cs.toList[i]? = some (.slice (some a) 0 0):=hi
   simpa using this
  obtain⟨u,hu⟩:=hcs i _ hi'
  exact eU hu) (vF Tryz.prog W)
 exact W5 g1 (.cons (.agg g4) .nil) (YC vG g5 fun _ _=>rfl)
end
end
end Go.Proofs.YtjnkfbpadpmakaaGreatDoor.Am
