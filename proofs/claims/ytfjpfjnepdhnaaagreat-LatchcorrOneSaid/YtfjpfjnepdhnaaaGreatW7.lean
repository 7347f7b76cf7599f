/- . -/
import Derived.Test.YtfjpfjnepdhnaaaGreatW6
import Derived.Test.YtfjpfjnepdhnaaaGreatS
namespace Go.Proofs.YtfjpfjnepdhnaaaGreat
open Go Go.RowKit Go.Proofs.YtfjpfjnepdhnaaaGreat.R
set_option linter.unusedVariables false
set_option linter.unusedSimpArgs false
section
set_option maxRecDepth 1000000 in
set_option maxHeartbeats 4000000 in
theorem MW(i budget n er ez:Int)(l c1 n2 c2 n3 c3 n4 c4:Nat)(A1 A2 A3 A4:Option Addr)(w:World)(her:(ez≠0/\er=ez)\/(ez=0/\(budget<0\/100000<budget)/\er=2))
  (hV:∀W,Below w.heap.size w W->Calls Tryz.prog 48 #[.agg #[.int .i64 i,.slice A1 l c1,.slice A2 n2 c2,.slice A3 n3 c3,.slice A4 n4 c4]] W fun e w'=>e = .returned (.tuple #[.int .i64 n,.int .i64 ez])/\Below W.heap.size W w') :
  Calls Tryz.prog 30 #[.agg #[.int .i64 i,.slice A1 l c1,.slice A2 n2 c2,.slice A3 n3 c3,.slice A4 n4 c4],.int .i64 budget] w fun e w'=>e = .returned (.tuple #[.slice none 0 0,zeroV,.int .i64 er])/\Below w.heap.size w w':=by
 have hb1':Below w.heap.size w ((w.alloc (.cells #[.int .i64 i,.slice A1 l c1,.slice A2 n2 c2,.slice A3 n3 c3,.slice A4 n4 c4] 26)).alloc (.cells #[.int .i64 0,.slice none 0 0,.slice none 0 0,.slice none 0 0,.slice none 0 0] 26)):=((GI _ w).alloc (dD _) _).alloc (by simp) _;have R0:=hV _ hb1';have KB:=Hd.mk hb1';clear hb1' hV;have fin:∀(w1:World),Below ((w.alloc (.cells #[.int .i64 i,.slice A1 l c1,.slice A2 n2 c2,.slice A3 n3 c3,.slice A4 n4 c4] 26)).alloc (.cells #[.int .i64 0,.slice none 0 0,.slice none 0 0,.slice none 0 0,.slice none 0 0] 26)).heap.size ((w.alloc (.cells #[.int .i64 i,.slice A1 l c1,.slice A2 n2 c2,.slice A3 n3 c3,.slice A4 n4 c4] 26)).alloc (.cells #[.int .i64 0,.slice none 0 0,.slice none 0 0,.slice none 0 0,.slice none 0 0] 26)) w1 ->
   w1.heap[w.heap.size+1]?=some (.cells #[.int .i64 0,.slice none 0 0,.slice none 0 0,.slice none 0 0,.slice none 0 0] 26 (0,0))/\Below w.heap.size w w1:=fun w1 hb=>by
  refine⟨(hb.block _ (by simp)).trans (by rw[show w.heap.size+1=(w.alloc (.cells #[.int .i64 i,.slice A1 l c1,.slice A2 n2 c2,.slice A3 n3 c3,.slice A4 n4 c4] 26)).heap.size by simp];exact F8),KB.out.trans (hb.mono (by simp;omega))⟩
 have KF:=Hd.mk fin;clear fin;rcases her with⟨h0,rfl⟩|⟨rfl,hb,rfl⟩
 .have h0':(er != 0)=true:=by simp[h0]
  clear h0
  go_enter Tryz.func30,Tryz.ntmps30
  go_wp2_with (go_at_call 48;refine R0.mono ?_;rintro e w1 ⟨rfl,hb⟩;obtain⟨hR5,hbw⟩:=KF.out w1 hb;obtain⟨y0,y0',y1,y1',y2,y2',y3,y3',y4,y4',yN,yM,yQ⟩:=FQ w1 (w.heap.size+1) (.int .i64 0) (.slice none 0 0) (.slice none 0 0) (.slice none 0 0) (.slice none 0 0) _ _ _ _ _ hR5;have KN:=Hd.mk yN;have KM:=Hd.mk yM;have KQ:=Hd.mk yQ;have Kbw:=Hd.mk hbw;clear hb hR5 yN yM yQ hbw)
  clear y0 y0' y1 y1' y2 y2' y3 y3' y4 y4';have hset:pF w1 (w.heap.size+1) (.int .i64 0) (.slice none 0 0) (.slice none 0 0) (.slice none 0 0) (.slice none 0 0)=((((w1.setCell ⟨w.heap.size+1,0,none⟩ (.int .i64 0)).setCell ⟨w.heap.size+1,1,none⟩ (.slice none 0 0)).setCell ⟨w.heap.size+1,2,none⟩ (.slice none 0 0)).setCell ⟨w.heap.size+1,3,none⟩ (.slice none 0 0)).setCell ⟨w.heap.size+1,4,none⟩ (.slice none 0 0):=rfl;rw[<-hset];clear hset;generalize pF w1 (w.heap.size+1) (.int .i64 0) (.slice none 0 0) (.slice none 0 0) (.slice none 0 0) (.slice none 0 0)=WF at KN KM KQ ⊢;refine P0 (v:=.tuple #[.slice none 0 0,zeroV,.int .i64 er]) (Bk rfl rfl rfl (P7 _ _ 26 26 _ (0,0) _ KN.out Tryz.underlying26 rfl (by kernel_rfl)) rfl) rfl ?_;exact⟨rfl,KQ.out.1.trans Kbw.out.os,KQ.out.2.1.trans Kbw.out.tape,KQ.out.2.2.1.trans Kbw.out.output,by rw[KQ.out.2.2.2];exact Kbw.out.size,fun j hj=>(KM.out j (by omega)).trans (Kbw.out.block j hj)⟩
 .have hd:(decide (budget<0)||decide (100000<budget))=true:=by simpa using hb
  have hd0:¬budget<0->100000<budget:=fun h=>by omega
  have Kd:=Hd.mk hd0;clear hd0 hb;by_cases hb0:budget<0
  all_goals
   first|(have hb1:=Kd.out hb0)|skip
   go_enter Tryz.func30,Tryz.ntmps30
   go_wp2_with (go_at_call 48;refine R0.mono ?_;rintro e w1 ⟨rfl,hb⟩;obtain⟨hR5,hbw⟩:=KF.out w1 hb;obtain⟨y0,y0',y1,y1',y2,y2',y3,y3',y4,y4',yN,yM,yQ⟩:=FQ w1 (w.heap.size+1) (.int .i64 0) (.slice none 0 0) (.slice none 0 0) (.slice none 0 0) (.slice none 0 0) _ _ _ _ _ hR5;have KN:=Hd.mk yN;have KM:=Hd.mk yM;have KQ:=Hd.mk yQ;have Kbw:=Hd.mk hbw;clear hb hR5 yN yM yQ hbw)
   clear y0 y0' y1 y1' y2 y2' y3 y3' y4 y4';have hset:pF w1 (w.heap.size+1) (.int .i64 0) (.slice none 0 0) (.slice none 0 0) (.slice none 0 0) (.slice none 0 0)=((((w1.setCell ⟨w.heap.size+1,0,none⟩ (.int .i64 0)).setCell ⟨w.heap.size+1,1,none⟩ (.slice none 0 0)).setCell ⟨w.heap.size+1,2,none⟩ (.slice none 0 0)).setCell ⟨w.heap.size+1,3,none⟩ (.slice none 0 0)).setCell ⟨w.heap.size+1,4,none⟩ (.slice none 0 0):=rfl;rw[<-hset];clear hset;generalize pF w1 (w.heap.size+1) (.int .i64 0) (.slice none 0 0) (.slice none 0 0) (.slice none 0 0) (.slice none 0 0)=WF at KN KM KQ ⊢;refine P0 (v:=.tuple #[.slice none 0 0,zeroV,.int .i64 2]) (Bk rfl rfl rfl (P7 _ _ 26 26 _ (0,0) _ KN.out Tryz.underlying26 rfl (by kernel_rfl)) rfl) rfl ?_;exact⟨rfl,KQ.out.1.trans Kbw.out.os,KQ.out.2.1.trans Kbw.out.tape,KQ.out.2.2.1.trans Kbw.out.output,by rw[KQ.out.2.2.2];exact Kbw.out.size,fun j hj=>(KM.out j (by omega)).trans (Kbw.out.block j hj)⟩
end
section
abbrev sK:gB:=(0,[],[],[],[])
def vZ(i:Int)(l:LP):Bool:=decide (0<=i)&&decide (i<=1000)&&decide (l.length<=1000)&&l.all fun p=>decide (0<=p.2)&&decide (p.2<=2)
def oO(C:bC)(i:Int)(l a:LP)(p q:Li)(n:Int)(ll:LL):Option gB:=
 match C 49 [bU i l a p q,.d (.int .i64) n,.d (.list (.list (.int .i64))) ll] [xn]with
 |some x=>if(show gB from x).2.1.length<=1000 then some x else none
 |none=>none
def kH(C:bC)(b:Int)(x:gB)(y z:Int):Option (Bool×Int):=
 C 51 [bU x.1 x.2.1 x.2.2.1 x.2.2.2.1 x.2.2.2.2,.d (.int .i64) y,.d (.int .i64) z,.d (.int .i64) b] [.d .bool,.d (.int .i64)]
def CJ:Option (Sum Int (LL×gB))->Option (LL×gB×Int)
 |some (.inr (l,x))=>some (l,x,0)
 |some (.inl e)=>some ([],sK,e)
 |none=>none
def qb(C:bC):List AV->Option (LL×gB×Int)
 |[.agg [.d (.int .i64) i,.d (.list (.pair (.int .i64) (.int .i64))) l,.d (.list (.pair (.int .i64) (.int .i64))) a,.d (.list (.int .i64)) p,.d (.list (.int .i64)) q],.d (.int .i64) b]=>
  match C 48 [bU i l a p q] [.d (.int .i64),.d (.int .i64)]with
  |some r=>if(show Int×Int from r).2≠0 then some ([],sK,(show Int×Int from r).2)
   else if(show Int from b)<0\/100000<(show Int from b) then some ([],sK,2)
   else if vZ i l=true then CJ (mj (oO C i l a p q (show Int×Int from r).1) (kH C b) i (List.length (α:=Int×Int) l+2) [fV i l (List.length (α:=Int×Int) l)]) else none
  |none=>none
 |_=>none
def JY(C:bC)(xs:List AV):(s:List Sh)->Option (eU s)
 |[.d (.list (.list (.int .i64))),.agg (.d (.int .i64)) (.agg (.d (.list (.pair (.int .i64) (.int .i64)))) (.agg (.d (.list (.pair (.int .i64) (.int .i64)))) (.agg (.d (.list (.int .i64))) (.d (.list (.int .i64)))))),.d (.int .i64)]=>qb C xs
 |_=>none
def JU(f:yi)(g:Nat->yi):Prop:=∀x y z,f x y=some z->∃n,∀m,n<=m->g m x y=some z
theorem N0{i:Int}{L:LP}{f:yi}{g:Nat->yi}(h:JU f g):JU (qF i L f) (fun n=>qF i L (g n)):=by intro x y z hz;unfold qF at hz;split at hz;rename_i a ha;split at hz;rename_i b hb;obtain⟨n,hn⟩:=h _ _ _ hz;exact⟨n,fun m hm=>by simp only[qF,ha,hb];exact hn m hm⟩;cases hz;cases hz
theorem Gq{f:Int->Option (Bool×Int)}{g:Nat->Int->Option (Bool×Int)}(h:∀x z,f x=some z->∃n,∀m,n<=m->g m x=some z):∀(ms:Li) (st z:Option (Sum Int (Li×Li))),z≠none->ms.foldl (nX f) st=z->∃n,∀m,n<=m->ms.foldl (nX (g m)) st=z
 |[],st,z,_,hz=>⟨0,fun _ _=>hz⟩
 |x::ms,st,z,h0,hz=>by
  simp only[ue]at hz;cases h1:nX f st x with
  |none=>rw[h1,(yu ms).2]at hz;exact absurd hz.symm h0
  |some s1=>
   have hst:∃n,∀m,n<=m->nX (g m) st x=some s1:=by unfold nX at h1;split at h1;rename_i a b;split at h1;rename_i t e ht;obtain⟨n,hn⟩:=h _ _ ht;exact⟨n,fun m hm=>by simp only[nX,hn m hm];exact h1⟩;cases h1;exact⟨0,fun m _=>by simp only[nX];exact h1⟩;cases h1
   obtain⟨n1,hn1⟩:=hst;rw[h1]at hz;obtain⟨n2,hn2⟩:=Gq h ms _ z h0 hz;exact⟨max n1 n2,fun m hm=>by rw[ue,hn1 m (by omega)];exact hn2 m (by omega)⟩
theorem Gy{f:yi}{g:Nat->yi}(h:JU f g):∀(l:LL) (st z:Option (Sum Int (LL×LL))),z≠none->l.foldl (l6 f) st=z->∃n,∀m,n<=m->l.foldl (l6 (g m)) st=z
 |[],st,z,_,hz=>⟨0,fun _ _=>hz⟩
 |c::l,st,z,h0,hz=>by
  simp only[ue]at hz;cases h1:l6 f st c with
  |none=>rw[h1,(yw l).2]at hz;exact absurd hz.symm h0
  |some s1=>
   have hst:∃n,∀m,n<=m->l6 (g m) st c=some s1:=by
    unfold l6 at h1;split at h1;rename_i S L;split at h1;cases h1;rename_i hd ms;have hs:oY (fun m=>f m hd) hd ms≠none:=by intro e;rw[e]at h1;cases h1
    obtain⟨n,hn⟩:=Gq (f:=fun m=>f m hd) (g:=fun n m=>g n m hd) (fun x z hz=>h x hd z hz) ms (some (.inr ([hd],[]))) _ hs rfl;refine⟨n,fun m hm=>?_⟩;have e:oY (fun x=>g m x hd) hd ms=oY (fun m=>f m hd) hd ms:=hn m hm;simp only[l6,e];exact h1;exact⟨0,fun m _=>by simp only[l6];exact h1⟩;cases h1
   obtain⟨n1,hn1⟩:=hst;rw[h1]at hz;obtain⟨n2,hn2⟩:=Gy h l _ z h0 hz;exact⟨max n1 n2,fun m hm=>by rw[ue,hn1 m (by omega)];exact hn2 m (by omega)⟩
theorem Hj{B:LL->Option gB}{Bn:Nat->LL->Option gB}{E:gB->yi}{En:Nat->gB->yi}{i:Int}(hB:∀l x,B l=some x->∃n,∀m,n<=m->Bn m l=some x)(hE:∀x,JU (E x) (fun n=>En n x)):∀(k:Nat) (l:LL) (z:Sum Int (LL×gB)),mj B E i k l=some z->∃n,∀m,n<=m->mj (Bn m) (En m) i k l=some z
 |0,l,z,hz=>by cases hz
 |k+1,l,z,hz=>by
  simp only[mj]at hz;split at hz
  case isFalse=>cases hz
  rename_i hs;split at hz;cases hz;rename_i x hx;obtain⟨n1,hn1⟩:=hB _ _ hx;have hne:pb (qF i x.2.1 (E x)) l≠none:=by intro e;rw[e]at hz;cases hz
  obtain⟨n2,hn2⟩:=Gy (N0 (i:=i) (L:=x.2.1) (hE x)) l (some (.inr ([],[]))) _ hne rfl;have e2:∀m,n2<=m->pb (qF i x.2.1 (En m x)) l=pb (qF i x.2.1 (E x)) l:=hn2;split at hz;rename_i S L hr;split at hz;rename_i hL;exact⟨max n1 n2,fun m hm=>by simp only[mj,aa hs,hn1 m (by omega),e2 m (by omega),hr,aa hL];exact hz⟩;rename_i hL;obtain⟨n3,hn3⟩:=Hj hB hE k _ z hz;exact⟨max (max n1 n2) n3,fun m hm=>by simp only[mj,aa hs,hn1 m (by omega),e2 m (by omega),hr,ab hL];exact hn3 m (by omega)⟩;rename_i e hr;exact⟨max n1 n2,fun m hm=>by simp only[mj,aa hs,hn1 m (by omega),e2 m (by omega),hr];exact hz⟩;cases hz
theorem FB{C:bC}{Cn:Nat->bC}(h:xf C Cn){xs:List AV}{z:LL×gB×Int}(hz:qb C xs=some z):∃n,∀m,n<=m->qb (Cn m) xs=some z:=by
 unfold qb at hz;split at hz
 .rename_i i l a p q b;split at hz
  .rename_i r hr;obtain⟨n1,hn1⟩:=h _ _ _ _ hr;split at hz;rename_i h1;exact⟨n1,fun m hm=>by simp only[qb,hn1 m hm];rw[aa h1];exact hz⟩
   .rename_i h1;split at hz;rename_i h2;exact⟨n1,fun m hm=>by simp only[qb,hn1 m hm];rw[ab h1,aa h2];exact hz⟩
    .rename_i h2;split at hz
     .rename_i h3;cases hf:mj (oO C i l a p q (show Int×Int from r).1) (kH C b) i (List.length (α:=Int×Int) l+2) [fV i l (List.length (α:=Int×Int) l)]with
      |none=>rw[hf]at hz;cases hz
      |some y=>
       obtain⟨n2,hn2⟩:=Hj (Bn:=fun n=>oO (Cn n) i l a p q (show Int×Int from r).1) (En:=fun n=>kH (Cn n) b) (fun ll x hx=>by unfold oO at hx;split at hx;rename_i x' hx';obtain⟨n,hn⟩:=h _ _ _ _ hx';exact⟨n,fun m hm=>by simp only[oO,hn m hm];exact hx⟩;cases hx) (fun x y z w hw=>h _ _ _ _ hw) _ _ _ hf
       rw[hf]at hz;exact⟨max n1 n2,fun m hm=>by simp only[qb,hn1 m (by omega)];rw[ab h1,ab h2,aa h3,hn2 m (by omega)];exact hz⟩
     cases hz
  cases hz
 cases hz
def AB:HK where
 run:=JY
 near:=by intro C Cn h xs s z hz;unfold JY at hz;split at hz;exact FB h hz;cases hz
end
section
theorem Lg{i:Int}{l:LP}(h:vZ i l=true):0<=i/\i<=1000/\l.length<=1000/\∀(j:Nat) (x:Int×Int),l[j]?=some x->0<=x.2/\x.2<=2:=by simp only[vZ,eJ,ir,uQ]at h;obtain⟨⟨⟨h1,h2⟩,h3⟩,h4⟩:=h;exact⟨h1,h2,h3,fun j x hx=>h4 x (NL hx)⟩
theorem Jz{E:Env}(h48:al E.sg 48=some ([.ro],[.d (.int .i64),.d (.int .i64)])){C:bC}(hC:fP Tryz.prog E C){i:Int}{l a:LP}{p q:Li}{n er:Int}
  (h48a:C 48 [bU i l a p q] [.d (.int .i64),.d (.int .i64)]=some (n,er)) {w:World} {bad:Nat->Prop} {u:Value} (g1:c9 noβ [] w bad (bU i l a p q) u []) :
  ∀W,Below w.heap.size w W->Calls Tryz.prog 48 #[u] W fun e w'=>e = .returned (.tuple #[.int .i64 n,.int .i64 er])/\Below W.heap.size W w':=by
 intro W hb;refine((hC 48 _ _ h48 _ _ h48a).2 (fun _=>False) W _ [] (.cons (b:=[]) (fY (fy hb) (fun _ _ h=>h.elim) (fun b _ h=>by rcases h with h|h;exact h.elim;cases h) (fun _ h=>by cases h) g1) .nil) rN (by simp) (fun _ h=>h.elim)).mono fun e w' h=>?_;obtain⟨v,rfl,hres⟩:=h;obtain⟨e1,e2,_,hbs,hv,_⟩:=hres.res;obtain⟨us,rfl,hu⟩:=hv;obtain⟨x1,y1,m1,n1,rfl,_,j1,hu⟩:=hu.cons';obtain⟨x2,y2,m2,n2,rfl,_,j2,hu⟩:=hu.cons';obtain⟨rfl,_⟩:=hu.nil';obtain⟨rfl,-⟩:=cP (β:=noβ) (ob:=[]) (w:=w') (show c9 noβ [] w' _ (.d (.int .i64) n) x1 m1 from j1);obtain⟨rfl,-⟩:=cP (β:=noβ) (ob:=[]) (w:=w') (show c9 noβ [] w' _ (.d (.int .i64) er) x2 m2 from j2);exact⟨rfl,nQ hres.same (by simp)⟩
def Qc(b1:Nat->Prop)(W:World)(x:gB)(xv:Value):Prop:=c9 noβ [] W b1 (bU x.1 x.2.1 x.2.2.1 x.2.2.2.1 x.2.2.2.2) xv []/\x.2.1.length<=1000
set_option maxHeartbeats 1000000 in
theorem Lf{E:Env}(h49:al E.sg 49=some ([.ro,.ro,.ro],[xn]))(h48:al E.sg 48=some ([.ro],[.d (.int .i64),.d (.int .i64)]))(h51:al E.sg 51=some ([.ro,.ro,.ro,.ro],[.d .bool,.d (.int .i64)]))
  {C:bC} (hC:fP Tryz.prog E C) (i:Int) (l a:LP) (p q:Li) (b n:Int) (z:LL×gB×Int)
  (h48a:C 48 [bU i l a p q] [.d (.int .i64),.d (.int .i64)]=some (n,(0:Int))) (hb0':0<=b) (hb1':b<=100000) (hB:vZ i l=true)
  (hz:CJ (mj (oO C i l a p q n) (kH C b) i (l.length+2) [fV i l l.length])=some z)
  (b0:Nat->Prop) (w:World) (vs:List Value) (bs:Ln) (hvs:Vs (c9 noβ [] w (fun b=>b0 b\/b∈bs)) [bU i l a p q,.d (.int .i64) b] vs bs) (hb0:∀b,b0 b->b<w.heap.size) :
  Calls Tryz.prog 30 vs.toArray w fun e w'=>∃v,e = .returned v/\se b0 [.ro,.ro] [.d (.list (.list (.int .i64))),xn,.d (.int .i64)] vs bs w w' z v:=by
 obtain⟨i0,i1,l1,hr⟩:=Lg hB;obtain⟨v1,vs1,c1,bs1,rfl,rfl,g1,hvs1⟩:=hvs.cons';obtain⟨v2,vs2,c2,bs2,rfl,rfl,g2,hvs2⟩:=hvs1.cons';obtain⟨rfl,rfl⟩:=hvs2.nil';obtain⟨rfl,u1,u2,u3,u4,rfl,k1,k2,k3,k4⟩:=zz g1;obtain⟨rfl,rfl⟩:=cP g2;obtain⟨A1,d1,rfl,-,at1⟩:=mb k1;obtain⟨A2,d2,rfl,-,-⟩:=mb k2;obtain⟨A3,d3,rfl,-,-⟩:=ints_at k3;obtain⟨A4,d4,rfl,-,-⟩:=ints_at k4;have hV:=Jz h48 hC h48a g1;cases hf:mj (oO C i l a p q n) (kH C b) i (l.length+2) [fV i l l.length]with
 |none=>rw[hf]at hz;cases hz
 |some ans=>
 rw[hf]at hz;have hBu:∀ll x v W,oO C i l a p q n ll=some x->wK (w.heap.size+2) W ll v->Below w.heap.size w W->w.heap.size+2<=W.heap.size->Calls Tryz.prog 49 #[.agg #[.int .i64 i,.slice A1 l.length d1,.slice A2 a.length d2,.slice A3 p.length d3,.slice A4 q.length d4],.int .i64 n,v] W fun e w'=>∃xv,e = .returned xv/\Below W.heap.size W w'/\Qc (fun k=>b0 k\/k=w.heap.size+1) w' x xv:=by
  intro ll x v W hx hD hb hs;unfold oO at hx;split at hx;rename_i x' hx';split at hx;rename_i hxl;cases hx;refine((hC 49 _ _ h49 _ _ hx').2 (fun k=>b0 k\/k=w.heap.size+1) W _ [] (.cons (b:=[]) (fY (fy hb) (fun _ _ h=>h.elim) (fun k hk h=>by
    rcases h with(h|h)|h;exact .inl h;omega;cases h) (fun _ h=>by cases h) g1) (.cons (b:=[]) (iy _ _) (.cons (b:=[]) (show c9 noβ [] W _ (.d (.list (.list (.int .i64))) ll) v [] from Er hD (fun k hk h=>by
    rcases h with(h|h)|h;have:=hb0 k h;omega;omega;cases h)) .nil))) rN (by simp) (fun k h=>by
    rcases h with h|h;have:=hb0 k h;omega;omega)).mono fun e w' h=>?_
  obtain⟨xv,rfl,hres⟩:=h;obtain⟨e1,e2,_,hbs,hv,_⟩:=hres.res;have hv':c9 noβ [] w' (fun k=>(b0 k\/k=w.heap.size+1)\/k∈e1++e2) (bU (show gB from x).1 (show gB from x).2.1 (show gB from x).2.2.1 (show gB from x).2.2.2.1 (show gB from x).2.2.2.2) xv e1:=hv;obtain rfl:e1=[]:=sv hv' rfl;exact⟨xv,rfl,nQ hres.same (by simp),fY (bad0:=fun _=>False) (bM.refl _ w') (fun _ _ h=>h.elim) (fun k _ h=>.inl h) (fun _ h=>by cases h) hv',hxl⟩;cases hx;cases hx
 have hEq:∀x y1 y2 t z xv W,kH C b x y1 y2=some (t,z)->Qc (fun k=>b0 k\/k=w.heap.size+1) W x xv->Below w.heap.size w W->Calls Tryz.prog 51 #[xv,.int .i64 y1,.int .i64 y2,.int .i64 b] W fun e w'=>e = .returned (.tuple #[.bool t,.int .i64 z])/\Below W.heap.size W w':=by intro x y1 y2 t z xv W hx hcv hb;refine((hC 51 _ _ h51 _ _ hx).2 (fun _=>False) W _ [] (.cons (b:=[]) (fY (bad0:=fun _=>False) (bM.refl _ W) (fun _ _ h=>h.elim) (fun k _ h=>by rcases h with h|h;exact h.elim;cases h) (fun _ h=>by cases h) hcv.1) (.cons (b:=[]) (iy _ _) (.cons (b:=[]) (iy _ _) (.cons (b:=[]) (iy _ _) .nil)))) rN (by simp) (fun _ h=>h.elim)).mono fun e w' h=>?_;obtain⟨v,rfl,hres⟩:=h;obtain⟨e1,e2,_,hbs,hv,_⟩:=hres.res;obtain⟨us,rfl,hu⟩:=hv;obtain⟨x1,z1,m1,n1,rfl,_,j1,hu⟩:=hu.cons';obtain⟨x2,z2,m2,n2,rfl,_,j2,hu⟩:=hu.cons';obtain⟨rfl,_⟩:=hu.nil';obtain⟨rfl,-⟩:=iG (β:=noβ) (ob:=[]) (w:=w') (show c9 noβ [] w' _ (.d .bool t) x1 m1 from j1);obtain⟨rfl,-⟩:=cP (β:=noβ) (ob:=[]) (w:=w') (show c9 noβ [] w' _ (.d (.int .i64) z) x2 m2 from j2);exact⟨rfl,nQ hres.same (by simp)⟩
 have hCV:∀W W' x xv,Qc (fun k=>b0 k\/k=w.heap.size+1) W x xv->bM (fun k=>k=w.heap.size+1) W W'->Qc (fun k=>b0 k\/k=w.heap.size+1) W' x xv:=fun W W' x xv h hs=>
  ⟨fY hs (fun k _ hk=>.inr hk) (fun k _ hk=>hk) (fun _ h=>by cases h) h.1,h.2⟩
 have hCx:∀W x xv,Qc (fun k=>b0 k\/k=w.heap.size+1) W x xv->∃B1 B2 B3 B4 d1 m2 d2 m3 d3 m4 d4,xv = .agg #[.int .i64 x.1,.slice B1 x.2.1.length d1,.slice B2 m2 d2,.slice B3 m3 d3,.slice B4 m4 d4]/\x.2.1.length<=1000 /\
   ∀(j:Nat) (p:Int×Int),x.2.1[j]?=some p->∃b o,B1=some ⟨b,o,none⟩/\b<W.heap.size/\W.cell? ⟨b,o+j*2,none⟩=some (.int .i64 p.1)/\W.cell? ⟨b,o+j*2+1,none⟩=some (.int .i64 p.2):=by
  intro W x xv h;obtain⟨-,u1,u2,u3,u4,rfl,j1,j2,j3,j4⟩:=zz h.1;obtain⟨B1,e1,rfl,-,at1⟩:=mb j1;obtain⟨B2,e2,rfl,-,-⟩:=mb j2;obtain⟨B3,e3,rfl,-,-⟩:=ints_at j3;obtain⟨B4,e4,rfl,-,-⟩:=ints_at j4;exact⟨B1,B2,B3,B4,e1,_,e2,_,e3,_,e4,rfl,h.2,at1⟩
 refine(Le i b n l.length d1 a.length d2 p.length d3 q.length d4 A1 A2 A3 A4 l w (Qc (fun k=>b0 k\/k=w.heap.size+1)) (oO C i l a p q n) (kH C b) ans (l.length+2) i0 i1 l1 hb0' hb1' rfl at1 hr hV hBu hEq hCV hCx hf).mono ?_;have hnb:∀k,w.heap.size<=k->¬((fun k=>b0 k\/k∈([]:Ln)++[]) k):=fun k hk h=>by rcases h with h|h;have:=hb0 k h;omega;cases h
 rintro e w' (⟨ll,x,v,xv,rfl,rfl,hbel,hD,hcv⟩|⟨er,rfl,rfl,hbel⟩);cases hz;have y1:eO noβ [] w' (fun k=>b0 k\/k∈([]:Ln)++[]) (.d (.list (.list (.int .i64))) ll) v []:=Er hD fun k hk=>hnb k (by omega);have y2:c9 noβ [] w' (fun k=>b0 k\/k∈([]:Ln)++[]) (bU x.1 x.2.1 x.2.2.1 x.2.2.2.1 x.2.2.2.2) xv []:=fY (bad0:=fun _=>False) (bM.refl _ w') (fun _ _ h=>h.elim) (fun k _ h=>by rcases h with h|h;exact .inl h;cases h) (fun _ h=>by cases h) hcv.1
 refine⟨_,rfl,⟨(fy hbel).mono fun _ _ h=>h.elim,[],[],by simp,by simp,?_,.nil⟩⟩;exact⟨[_,_,.int .i64 0],rfl,Vs.cons (b:=[]) (a:=.d (.list (.list (.int .i64))) ll) y1 (.cons (b:=[]) y2 (.cons (b:=[]) (a:=.d (.int .i64) 0) (iy (β:=noβ) (ob:=[]) .i64 0) .nil))⟩;cases hz;refine⟨_,rfl,⟨(fy hbel).mono fun _ _ h=>h.elim,[],[],by simp,by simp,?_,.nil⟩⟩;exact⟨[_,_,.int .i64 er],rfl,Vs.cons (b:=[]) (a:=.d (.list (.list (.int .i64))) []) ij (.cons (b:=[]) (FP (i:=0) ij ij ij ij) (.cons (b:=[]) (a:=.d (.int .i64) er) (iy (β:=noβ) (ob:=[]) .i64 er) .nil))⟩
theorem xl{E:Env}(h48:al E.sg 48=some ([.ro],[.d (.int .i64),.d (.int .i64)])){C:bC}(hC:fP Tryz.prog E C)(i:Int)(l a:LP)(p q:Li)(b n ez er:Int)
  (h48a:C 48 [bU i l a p q] [.d (.int .i64),.d (.int .i64)]=some (n,ez)) (her:(ez≠0/\er=ez)\/(ez=0/\(b<0\/100000<b)/\er=2))
  (b0:Nat->Prop) (w:World) (vs:List Value) (bs:Ln) (hvs:Vs (c9 noβ [] w (fun b=>b0 b\/b∈bs)) [bU i l a p q,.d (.int .i64) b] vs bs) :
  Calls Tryz.prog 30 vs.toArray w fun e w'=>∃v,e = .returned v/\se b0 [.ro,.ro] [.d (.list (.list (.int .i64))),xn,.d (.int .i64)] vs bs w w' (([],sK,er):LL×gB×Int) v:=by
 obtain⟨v1,vs1,c1,bs1,rfl,rfl,g1,hvs1⟩:=hvs.cons';obtain⟨v2,vs2,c2,bs2,rfl,rfl,g2,hvs2⟩:=hvs1.cons';obtain⟨rfl,rfl⟩:=hvs2.nil';obtain⟨rfl,u1,u2,u3,u4,rfl,k1,k2,k3,k4⟩:=zz g1;obtain⟨rfl,rfl⟩:=cP g2;obtain⟨A1,d1,rfl,-,at1⟩:=mb k1;obtain⟨A2,d2,rfl,-,-⟩:=mb k2;obtain⟨A3,d3,rfl,-,-⟩:=ints_at k3;obtain⟨A4,d4,rfl,-,-⟩:=ints_at k4;have hV:=Jz h48 hC h48a g1;refine(MW i b n er ez l.length d1 a.length d2 p.length d3 q.length d4 A1 A2 A3 A4 w her hV).mono ?_;rintro e w' ⟨rfl,hbel⟩;refine⟨_,rfl,⟨(fy hbel).mono fun _ _ h=>h.elim,[],[],by simp,by simp,?_,.nil⟩⟩;exact⟨[_,_,.int .i64 er],rfl,Vs.cons (b:=[]) (a:=.d (.list (.list (.int .i64))) []) ij (.cons (b:=[]) (FP (i:=0) ij ij ij ij) (.cons (b:=[]) (a:=.d (.int .i64) er) (iy (β:=noβ) (ob:=[]) .i64 er) .nil))⟩
theorem MX{E:Env}(h30:al E.sg 30=some ([.ro,.ro],[.d (.list (.list (.int .i64))),xn,.d (.int .i64)]))(h48:al E.sg 48=some ([.ro],[.d (.int .i64),.d (.int .i64)]))(h49:al E.sg 49=some ([.ro,.ro,.ro],[xn]))(h51:al E.sg 51=some ([.ro,.ro,.ro,.ro],[.d .bool,.d (.int .i64)])):LH Tryz.prog E 30 AB:=by intro C hC ms rs hsg xs r hans b0 w vs bs hvs hnd hbs hb0;rw[h30]at hsg;cases hsg;have hans':qb C xs=some r:=hans;clear hans;unfold qb at hans';split at hans';rename_i i l a p q b;split at hans';rename_i r48 h1;obtain⟨n,e⟩:=r48;split at hans';rename_i he;cases hans';exact xl h48 hC i l a p q b n e e h1 (.inl ⟨he,rfl⟩) b0 w vs bs hvs;rename_i he;have e1':e=0:=Decidable.not_not.1 he;subst e1';split at hans';rename_i hb;cases hans';exact xl h48 hC i l a p q b n 0 2 h1 (.inr ⟨rfl,hb,rfl⟩) b0 w vs bs hvs;rename_i hb;split at hans';rename_i hB;exact Lf h49 h48 h51 hC i l a p q b n r h1 (Int.not_lt.1 fun h=>hb (.inl h)) (Int.not_lt.1 fun h=>hb (.inr h)) hB hans' b0 w vs bs hvs hb0;cases hans';cases hans';cases hans'
end
end Go.Proofs.YtfjpfjnepdhnaaaGreat

