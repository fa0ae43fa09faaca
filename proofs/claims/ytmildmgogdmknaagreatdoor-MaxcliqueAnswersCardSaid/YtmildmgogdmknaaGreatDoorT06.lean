/- The neighbours and the degree of a node, by the reference. -/
import Derived.Test.YtmildmgogdmknaaGreatDoorX11
set_option linter.unusedSimpArgs false
set_option linter.unusedVariables false
set_option maxRecDepth 100000
set_option maxHeartbeats 4000000
open List renaming getElem?_eq_getElem → an, length_cons → cN, map_cons → kA, mem_map → gO, take_of_length_le → aZ
open Option.some renaming inj → dv
namespace Go.BmP
open Go.Am Go.Bm
def Sc (v:Int) (e:Ed):List Int:=(if e.1=v then[e.2] else[])++(if e.2=v then[e.1] else[])
def WS (v:Int) (Es:List Ed) (o:List Int) (i:Nat) (J:Env):St:=⟨(1,.int .i64 v)::(5,.own 1 (ints o))::(12,.list 2 (bU Es))::(13,.int .i64 Es.length)::(14,.int .i64 i)::J,[]⟩
theorem ael (v:Int) (Es:List Ed) (hE:Es.length<1000000) (i:Nat) (hi:i<Es.length) (o:List Int) (ho:o.length<4294967290):aW aq 0 Ut (WS v Es o i [])=some (.normal,WS v Es (o++Sc v Es[i]) (i+1) []):=by
 have k1:(i:Int)<Es.length:=by omega
 have hw:=dM (i:=i) (by omega);have g3:(bU Es)[i]?=some (.agg [.int .i64 Es[i].1,.int .i64 Es[i].2]):=by rw[aQ,an hi]; simp[bW]
 have g4:∀h,(bU Es)[i]'h=.agg [.int .i64 Es[i].1,.int .i64 Es[i].2]:=fun h=>by
  have:=an (l:=bU Es) h;rw[g3] at this;exact (dv this).symm
 have g5:=az Es;have l1:o.length+1<=4294967296:=by omega
 have l2:(o++[Es[i].2]).length+1<=4294967296:=by simp; omega
 have l3:o.length+1+1<=4294967296:=by omega
 generalize Es[i]=e at *;obtain⟨a,b⟩:=e;unfold WS Ut Sc;generalize bU Es=Y at *;have t2:List.take (o.length+1) (ints (o++[b]))=ints (o++[b]):=aZ (by simp[ints]);have t3:List.take (o.length+2) (o++[v,v])=o++[v,v]:=aZ (by simp);by_cases h1:a=v
 ·by_cases h2:b=v
  ·simp[G7,G6,G5,G4,G3,zG,zF,k1,hi,hw,g4,g5,l1,l3,t3,h1,h2,jx,idx,aO,af,er,cq]
  ·simp[G7,G6,G5,G4,G3,zG,zF,k1,hi,hw,g4,g5,l1,h1,h2,jx,idx,aO,af,er,cq]
 ·by_cases h2:b=v
  ·simp[G7,G6,G5,G4,G3,zG,zF,k1,hi,hw,g4,g5,l1,h1,h2,jx,idx,aO,af,er,cq]
  ·simp[G7,G6,G5,G4,G3,zG,zF,k1,hi,hw,g4,g5,h1,h2,idx,aO]
theorem ZY (v:Int) (e:Ed):(Sc v e).length<=2:=by
 unfold Sc; split<;>split<;>simp
theorem ZX (v:Int) (Es:List Ed) (hE:Es.length<1000000):∀(k i:Nat) (o:List Int),i+k=Es.length->o.length<=2*i->aW aq 0 (.loop Ut) (WS v Es o i [])=some (.exit 0,WS v Es (o++((Es.drop i).map (Sc v)).flatten) Es.length [(15,.bool false)])
 |0,i,o,hi,ho=>by
   obtain rfl:i=Es.length:=by omega
   rw[List.drop_length,List.map_nil,List.flatten_nil,List.append_nil];refine bq ?_;unfold WS Ut;generalize bU Es=Y at *;simp[G7,G6,G5,G4,G3,zG,zF]
 |k+1,i,o,hi,ho=>by
   have bD:i<Es.length:=by omega
   have:=ZY v Es[i];have ih:=ZX v Es hE k (i+1) (o++Sc v Es[i]) (by omega) (by simp; omega);rw[List.append_assoc] at ih;rw[List.drop_eq_getElem_cons bD,kA,List.flatten_cons];exact (aS (ael v Es hE i bD o (by omega))).trans ih
theorem alg {N:Nat} {Es:List Ed} (hG:jh (N:Int) Es) {v:Int} (h0:0<=v) (h1:v<N):cV (Es.map (Sc v)).flatten=B9 N Es v:=by
 refine sI (eY _).1 (WR hG h0 h1) fun x=>?_;rw[(eY _).2,rW hG h0 h1,List.mem_flatten];unfold jn;constructor
 ·rintro⟨l,hl,hx⟩;obtain⟨e,he,rfl⟩:=gO.1 hl;unfold Sc at hx;rcases List.mem_append.1 hx with h|h
  ·split at h
   ·rename_i k; simp at h; subst h; left; rw[<-k]; exact he
   ·cases h
  ·split at h
   ·rename_i k; simp at h; subst h; right; rw[<-k]; exact he
   ·cases h
 ·rintro (h|h)
  ·exact⟨_,gO.2 ⟨_,h,rfl⟩,by simp[Sc]⟩
  ·exact⟨_,gO.2 ⟨_,h,rfl⟩,by simp[Sc]⟩
theorem ta {N:Nat} {Es:List Ed} (hG:jh (N:Int) Es) (hE:Es.length<1000000) {v:Int} (h0:0<=v) (h1:v<N):bp aq nQR [.agg [.int .i64 N,.list 2 (bU Es)],.int .i64 v] []=some (.list 1 (ints (B9 N Es v)),[]):=by
 have g:=iM N Es (by omega);rw[eB.2 hG] at g;have lp:=ZX v Es hE Es.length 0 [] (by omega) (by simp);rw[List.drop_zero,List.nil_append] at lp
 have bl:(Es.map (Sc v)).flatten.length<=2*Es.length:=by
  have:∀l:List Ed,(l.map (Sc v)).flatten.length<=2*l.length:=by
   intro l
   induction l with
   |nil=>simp
   |cons e r ih=>
     have:=ZY v e;simp only[kA,List.flatten_cons,List.length_append,cN];omega
  exact this Es
 have of:=FX (Es.map (Sc v)).flatten (by omega);rw[alg hG h0 h1] at of;have tk:List.take (Es.map (Sc v)).flatten.length (ints (Es.map (Sc v)).flatten)=ints (Es.map (Sc v)).flatten:=aZ (by rw[af]; omega);have g5:=az Es;have g6:=af (Es.map (Sc v)).flatten;unfold WS at lp;rw[fi,c8] at lp;rw[pM sQR (Nat.le_of_ble_eq_true rfl)];unfold qQR cQR;generalize (Es.map (Sc v)).flatten=fl at *;cases fl with
 |nil=>
   rw[c8] at *;generalize bU Es=Y at *;generalize ints (B9 N Es v)=nv at *;simp[He,Hd,Hc,Hb,G8,zE,g,lp,of,g5,g6,aO,FD,Gs,sQH,iQH,dP,pl,bk,bf]
 |cons x r=>
   rw[lf] at *;rw[cN] at *;generalize bU Es=Y at *;generalize ints (B9 N Es v)=nv at *;generalize ints r=rr at *;simp[He,Hd,Hc,Hb,G8,zE,g,lp,of,tk,g5,g6,aO,FD,Gs,sQH,iQH,dP,pl,bk,bf]
end Go.BmP
